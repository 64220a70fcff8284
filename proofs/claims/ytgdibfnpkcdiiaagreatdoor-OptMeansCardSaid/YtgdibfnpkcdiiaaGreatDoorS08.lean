/- Joint text: EvL, EvM, EvN, EvO. By an AI agent. -/
import Derived.Test.YtgdibfnpkcdiiaaGreatDoorSzy
import Derived.Test.YtgdibfnpkcdiiaaGreatDoorS07
import Derived.Laws.AppendOwn
import Derived.Laws.Runes
set_option linter.all false
set_option maxRecDepth 100000
set_option maxHeartbeats 64000000
noncomputable section
namespace Go.Proofs.YtgdibfnpkcdiiaaGreatDoor
namespace Ev
section
variable {P:Program}{K:Kon}{o:Oper}
def SK(x:Opd)(st:St):RS:=sel (Nat.beq (Nat.mod (rd st.T x) 16) 7) (.ok (Nat.add 2361183241434822606898 (Nat.mul 256 (sl (rd st.T x)))) st) (sel (Nat.beq (rd st.T x) 6) (.ok 2361183241434822606898 st) (sel (Nat.beq (rd st.T x) 57) (.ok 2361183241434822606898 st) .no))
def eY:(2361183241434822606898:Nat)=ay .i64 ((0:Nat):Int):=by decide
def TR.nil{g:Gh}{R nR w:Nat}{v:Value}(h:TR g R nR w v)(e:w=6):v=.slice none 0 0:=(h.aM oqo oqo oqo oqo).zx oqo
def TR.emp{g:Gh}{R nR w:Nat}{v:Value}(h:TR g R nR w v)(e:w=57):∃a,v=.slice (some a) 0 0:=(h.aM oqo oqo oqo oqo).yT e
def Wu{t el:TypeId}{x:Operand}(ho:o.op=.call {callee:=.builtin .len,args:=#[x],argTypes:=#[t]})(ht:P.underlying t=some (.slice el)):OpV P K o (SK (cOp K x)):=.pure λg st a w z st' _ _ j e=>by
 unfold SK at e;have i:=j x (by simp[ho,Op.operands,Call.operands]);have key:∀(b:Option Addr)(n c:Nat),a.eval x=.slice b n c->(execOp a.eval o).run P w=.ok (.value (goInt n)) w:=λb n c hv=>by simp[execOp,ho,resolve,invoke,builtin,Builtin.len_,jqa ht,hv]
 cases h1:Nat.beq (Nat.mod (rd st.T (cOp K x)) 16) 7 with|true=>rw[h1,aj]at e;injection e with d f;simp only[nA,nM]at d;obtain⟨blk,base,room,cap,ad,k,h,a3,a4,a5,_⟩:=i.sli (ah h1);refine⟨f.symm,_,key _ _ _ h,?_⟩;rw[<-d,<-uX];exact .cell _ _ (.int _ _ oqo oqo)|false=>
  rw[h1,ag]at e;have z0:TR g st.R st.nR 2361183241434822606898 (goInt (0:Nat)):=by rw[eY];exact .cell _ _ (.int _ _ (by decide) (by decide))
  cases h2:Nat.beq (rd st.T (cOp K x)) 6 with|true=>rw[h2,aj]at e;injection e with d f;exact⟨f.symm,_,key _ _ _ (i.nil (ah h2)),by rw[<-d];exact z0⟩|false=>rw[h2,ag]at e;obtain⟨h3,e⟩:=ae e;injection e with d f;obtain⟨ad,h⟩:=i.emp (ah h3);exact⟨f.symm,_,key _ _ _ h,by rw[<-d];exact z0⟩
def LH(n:Nat)(st:St):RS:=.ok (Nat.add 2361183241434822606898 (Nat.mul 256 n)) st
def RN{t el:TypeId}{x:Operand}{n:Nat}(ho:o.op=.call {callee:=.builtin .len,args:=#[x],argTypes:=#[t]})(ht:P.underlying t=some (.array n el))(hn:n<16777216):OpV P K o (LH n):=.pure λg st a w z st' _ _ d e=>by
 unfold LH at e;injection e with b c;simp only[nA,nM]at b;refine⟨c.symm,goInt n,?_,?_⟩;·simp[execOp,ho,resolve,invoke,builtin,Builtin.len_,jqa ht]
 ·rw[<-b,<-uX];exact .cell _ _ (.int _ _ oqo oqo)
def bnd(T:Nat)(x:Option Opd)(d:Nat):Nat:=Option.rec d (λy=>ixN (rd T y)) x
def qL(T:Nat)(x:Option Opd):Bool:=Option.rec true (λy=>sP (rd T y)) x
def La{k:IntKind}{n y:Nat}{code:BoundsCode}(a:n<=y)(w:World):(Instr.sliceBound (.int k (n:Int)) y code).run P w=.ok n w:=by have:(0:Int)<=(n:Int)/\(n:Int)<=(y:Int):=oqo;simp only[Instr.sliceBound,asIntOf,qjm,jzk,qjl,qzb this,jzf]
def oW{x:Operand}{g:Gh}{R nR T:Nat}{a:Act}(h:TR g R nR (rd T (cOp K x)) (a.eval x))(b:sP (rd T (cOp K x))=true){y:Nat}{code:BoundsCode}(c:ixN (rd T (cOp K x))<=y)(w:World):(Instr.sliceBound (a.eval x) y code).run P w=.ok (ixN (rd T (cOp K x))) w:=by obtain⟨k,e⟩:=h.ixN b;rw[e];exact La c w
def uH{b hi:Option Operand}{g:Gh}{R nR T:Nat}{a:Act}(hl:∀x,b=some x->TR g R nR (rd T (cOp K x)) (a.eval x))(k:∀x,hi=some x->TR g R nR (rd T (cOp K x)) (a.eval x))(j:qL T (b.map (cOp K))=true)(i:qL T (hi.map (cOp K))=true)(sl:Bool){len cap:Nat}(h1:bnd T (b.map (cOp K)) 0<=bnd T (hi.map (cOp K)) len)(h2:bnd T (hi.map (cOp K)) len<=len)(h3:len<=cap)(w:World):(Instr.sliceBounds sl len cap (b.map a.eval) (hi.map a.eval) none).run P w=.ok (bnd T (b.map (cOp K)) 0,bnd T (hi.map (cOp K)) len,cap) w:=by have f:∀x,b=some x->∀y c,ixN (rd T (cOp K x))<=y->(Instr.sliceBound (a.eval x) y c).run P w=.ok (ixN (rd T (cOp K x))) w:=λx d y c e=>oW (hl x d) (by subst d;exact j) e w;have h:∀x,hi=some x->∀y c,ixN (rd T (cOp K x))<=y->(Instr.sliceBound (a.eval x) y c).run P w=.ok (ixN (rd T (cOp K x))) w:=λx d y c e=>oW (k x d) (by subst d;exact i) e w;cases b with
 |none=>cases hi with|none=>simp[Instr.sliceBounds,bnd]|some y=>simp only[jqf,bnd]at h1 h2⊢;simp[Instr.sliceBounds,h y rfl _ _ (qzi h2 h3)]
 |some x=>cases hi with|none=>simp only[jqf,Option.map_none,bnd]at h1 h2⊢;simp[Instr.sliceBounds,f x rfl _ _ h1]|some y=>simp only[jqf,bnd]at h1 h2⊢;simp[Instr.sliceBounds,h y rfl _ _ (qzi h2 h3),f x rfl _ _ h1]
def MH(size:Nat)(x:Opd)(a hi:Option Opd)(st:St):RS:=sel (qL st.T a) (sel (qL st.T hi)
  (sel (Nat.beq (Nat.mod (rd st.T x) 16) 7)
   (sel (Nat.ble (bnd st.T a 0) (bnd st.T hi (sl (rd st.T x)))) (sel (Nat.ble (bnd st.T hi (sl (rd st.T x))) (sl (rd st.T x))) (sel (Nat.beq (se (rd st.T x)) size)
    (.ok (Nat.add (Nat.add (Nat.add (Nat.mod (rd st.T x) 4503599627370496) (Nat.mul 4503599627370496 (Nat.sub (bnd st.T hi (sl (rd st.T x))) (bnd st.T a 0)))) (Nat.mul 75557863725914323419136 size))
     (Nat.mul 19342813113834066795298816 (Nat.add (so (rd st.T x)) (Nat.mul (bnd st.T a 0) size)))) st) .no) .no) .no)
   (sel (Nat.beq (bnd st.T a 0) 0) (sel (Nat.beq (bnd st.T hi 0) 0) (sel (Nat.beq (rd st.T x) 6) (.ok 6 st) (sel (Nat.beq (rd st.T x) 57) (.ok 57 st) .no)) .no) .no)) .no) .no
def Vo{s z l e q b a q':Nat}(hs:s<16777216)(hz:z<16777216):bF s z l e q%4503599627370496+4503599627370496*b+75557863725914323419136*a+19342813113834066795298816*q'=bF s z b a q':=by unfold bF;omega
def Ua{t el:TypeId}{x:Operand}{j hi:Option Operand}{i:TypeInfo}(ho:o.op=.slice t x j hi none)(ht:P.underlying t=some (.slice el))(J:P.info? el=some i):OpV P K o (MH i.size (cOp K x) (j.map (cOp K)) (hi.map (cOp K))):=.pure λg st a w z st' _ _ B e=>by
 unfold MH at e;obtain⟨h1,e⟩:=ae e;obtain⟨h2,e⟩:=ae e;have A:=B x (by simp[ho,Op.operands]);have hl:∀y,j=some y->TR g st.R st.nR (rd st.T (cOp K y)) (a.eval y):=λy hl=>B y (by simp[ho,Op.operands,hl]);have I:∀y,hi=some y->TR g st.R st.nR (rd st.T (cOp K y)) (a.eval y):=λy hl=>B y (by simp[ho,Op.operands,hl]);have key:∀(b:Option Addr)(n c:Nat),a.eval x=.slice b n c->n<=c->bnd st.T (j.map (cOp K)) 0<=bnd st.T (hi.map (cOp K)) n->bnd st.T (hi.map (cOp K)) n<=n->(execOp a.eval o).run P w=.ok (.value (.slice (if c=bnd st.T (j.map (cOp K)) 0 then b else b.map (·.add (bnd st.T (j.map (cOp K)) 0*i.size))) (bnd st.T (hi.map (cOp K)) n-bnd st.T (j.map (cOp K)) 0) (c-bnd st.T (j.map (cOp K)) 0))) w:=λb n c hv h3 d f=>by have:=uH (P:=P) hl I h1 h2 true d f h3 w;simp only[execOp,ho,Instr.sliceAt,Instr.slice,jqa ht,hv,Option.map_none,qjm,this,qjl,dG J,jzk]
 cases h3:Nat.beq (Nat.mod (rd st.T (cOp K x)) 16) 7 with|true=>
  rw[h3,aj]at e;obtain⟨d,e⟩:=ae e;obtain⟨f,e⟩:=ae e;obtain⟨m,e⟩:=ae e;injection e with k p;have d:=fF d;have f:=fF f;have m:=ah m;simp only[nA,nM,Ev.nS,Ev.nR]at k;obtain⟨blk,base,room,cap,ad,F,r,a3,a4,a5,q,D,G,a9,C⟩:=A.sli (ah h3);have hr:=key _ _ _ r a9 d f;rw[F,Vo a3 a4]at k;rw[BZ a3 a4 a5 q,Ji a3 a4 a5]at k;generalize bnd st.T (j.map (cOp K)) 0=l at*;generalize bnd st.T (hi.map (cOp K)) (sl (rd st.T (cOp K x)))=h at*;refine⟨p.symm,_,hr,?_⟩;have s:∀u v:Nat,u<=v->u*i.size<=v*i.size:=λu v L=>jqo _ L;have N:=s h (sl (rd st.T (cOp K x))) f;have O:(h-l)*i.size=h*i.size-l*i.size:=Nat.sub_mul _ _ _;have Q:(cap-l)*i.size=cap*i.size-l*i.size:=Nat.sub_mul _ _ _;have R:=s l h d;have S:=s (sl (rd st.T (cOp K x))) cap a9;rw[m]at G q C;have E:so (rd st.T (cOp K x))+l*i.size+(h-l)*i.size<=pz (rd st.T (cOp K x)):=oqo;rw[<-k];by_cases hc:cap=l;·rw[qzb hc];exact .cell _ _ (.sli _ _ _ _ _ blk base room _ _ a3 a4 oqo q D E oqo (.inl oqo))
  ·rw[qzc hc];obtain⟨rfl,M⟩:=C.resolve_left oqo;refine .cell _ _ (.sli _ _ _ _ _ blk base room _ _ a3 a4 oqo q D E oqo (.inr ⟨?_,by omega⟩));show Addr.add _ _=_;rw[kG,jqu]|false=>rw[h3,ag]at e;obtain⟨d,e⟩:=ae e;obtain⟨f,e⟩:=ae e;have d:=ah d;have f:=ah f;cases m:Nat.beq (rd st.T (cOp K x)) 6 with|true=>rw[m,aj]at e;injection e with k p;have hr:=key _ _ _ (A.nil (ah m)) (qqf _) oqo oqo;rw[d,f]at hr;exact⟨p.symm,_,hr,by rw[<-k];exact .cell _ _ .snil⟩|false=>rw[m,ag]at e;obtain⟨H,e⟩:=ae e;injection e with k p;obtain⟨ad,r⟩:=A.emp (ah H);have hr:=key _ _ _ r (qqf _) oqo oqo;rw[d,f]at hr;exact⟨p.symm,_,hr,by rw[<-k];exact .cell _ _ (.semp _)⟩
def KE(x:Opd)(a hi b:Option Opd)(st:St):RS:=sel (qL st.T a) (sel (qL st.T hi) (sel (qL st.T b) (sel (Nat.beq (bnd st.T a 0) 0) (sel (Nat.beq (bnd st.T hi 1) 0) (sel (Nat.beq (bnd st.T b 1) 0)
  (sel (Nat.beq (rd st.T x) 6) (.ok 6 st) (sel (Nat.beq (rd st.T x) 57) (.ok 57 st) (sel (Nat.beq (Nat.mod (rd st.T x) 16) 7) (.ok 57 st) .no))) .no) .no) .no) .no) .no) .no
def Qh{t el:TypeId}{x:Operand}{k:Option Operand}{hi d:Operand}{i:TypeInfo}(ho:o.op=.slice t x k (some hi) (some d))(ht:P.underlying t=some (.slice el))(G:P.info? el=some i):OpV P K o (KE (cOp K x) (k.map (cOp K)) (some (cOp K hi)) (some (cOp K d))):=.pure λg st a w z st' _ _ j e=>by
 unfold KE at e;obtain⟨h1,e⟩:=ae e;obtain⟨h2,e⟩:=ae e;obtain⟨h3,e⟩:=ae e;obtain⟨p,e⟩:=ae e;obtain⟨q,e⟩:=ae e;obtain⟨r,e⟩:=ae e;have p:=ah p;have q:ixN (rd st.T (cOp K hi))=0:=ah q;have r:ixN (rd st.T (cOp K d))=0:=ah r;have v:=j x (by simp[ho,Op.operands]);have A:∀y c,(Instr.sliceBound (a.eval hi) y c).run P w=.ok 0 w:=λy c=>by have:=oW (P:=P) (y:=y) (code:=c) (j hi (by simp[ho,Op.operands])) h2 oqo w;rwa[q]at this
 have B:∀y c,(Instr.sliceBound (a.eval d) y c).run P w=.ok 0 w:=λy c=>by have:=oW (P:=P) (y:=y) (code:=c) (j d (by simp[ho,Op.operands])) h3 oqo w;rwa[r]at this
 have key:∀(b:Option Addr)(n c:Nat),a.eval x=.slice b n c->(execOp a.eval o).run P w=.ok (.value (.slice b 0 0)) w:=λb n c hv=>by
  have F:(Instr.sliceBounds true n c (k.map a.eval) (some (a.eval hi)) (some (a.eval d))).run P w=.ok (0,0,0) w:=by cases k with|none=>simp[Instr.sliceBounds,A,B]|some l=>
    have C:∀y c,(Instr.sliceBound (a.eval l) y c).run P w=.ok 0 w:=λy c=>by have D:ixN (rd st.T (cOp K l))=0:=p;have:=oW (P:=P) (y:=y) (code:=c) (j l (by simp[ho,Op.operands])) h1 oqo w;rwa[D]at this
    simp[Instr.sliceBounds,A,B,C]
  simp[execOp,ho,Instr.sliceAt,Instr.slice,jqa ht,hv,F,dG G]
 cases s:Nat.beq (rd st.T (cOp K x)) 6 with|true=>rw[s,aj]at e;injection e with f h;exact⟨h.symm,_,key _ _ _ (v.nil (ah s)),by rw[<-f];exact .cell _ _ .snil⟩|false=>rw[s,ag]at e;cases u:Nat.beq (rd st.T (cOp K x)) 57 with|true=>rw[u,aj]at e;injection e with f h;obtain⟨ad,m⟩:=v.emp (ah u);exact⟨h.symm,_,key _ _ _ m,by rw[<-f];exact .cell _ _ (.semp _)⟩|false=>rw[u,ag]at e;obtain⟨E,e⟩:=ae e;injection e with f h;obtain⟨blk,base,room,cap,ad,H,m,_⟩:=v.sli (ah E);exact⟨h.symm,_,key _ _ _ m,by rw[<-f];exact .cell _ _ (.semp _)⟩
def Lr(n size:Nat)(x:Opd)(a hi:Option Opd)(st:St):RS:=sel (qL st.T a) (sel (qL st.T hi) (sel (Nat.beq (Nat.mod (rd st.T x) 16) 5) (sel (Nat.ble (bnd st.T a 0) (bnd st.T hi n)) (sel (Nat.ble (bnd st.T hi n) n) (sel (Nat.ble (Nat.add (po (rd st.T x)) (Nat.mul n size)) (pz (rd st.T x)))
  (.ok (Nat.add (Nat.add (Nat.add (Nat.add (Nat.mod (rd st.T x) 4503599627370496) 2) (Nat.mul 4503599627370496 (Nat.sub (bnd st.T hi n) (bnd st.T a 0)))) (Nat.mul 75557863725914323419136 size))
   (Nat.mul 19342813113834066795298816 (Nat.add (po (rd st.T x)) (Nat.mul (bnd st.T a 0) size)))) st) .no) .no) .no) .no) .no) .no
def TJ{t el:TypeId}{x:Operand}{b hi:Option Operand}{n:Nat}{i:TypeInfo}(ho:o.op=.slice t x b hi none)(ht:P.underlying t=some (.array n el))(D:P.info? el=some i)(hn:n<16777216)(he:i.size<256):OpV P K o (Lr n i.size (cOp K x) (b.map (cOp K)) (hi.map (cOp K))):=.pure λg st a w z st' _ hr0 k e=>by
 unfold Lr at e;obtain⟨h1,e⟩:=ae e;obtain⟨h2,e⟩:=ae e;obtain⟨h3,e⟩:=ae e;obtain⟨d,e⟩:=ae e;obtain⟨f,e⟩:=ae e;obtain⟨j,e⟩:=ae e;injection e with m A;have d:=fF d;have f:=fF f;have j:=fF j;simp only[nA,nM,Ev.nS,Ev.nR]at m j;have hl:∀y,b=some y->TR g st.R st.nR (rd st.T (cOp K y)) (a.eval y):=λy hl=>k y (by simp[ho,Op.operands,hl]);have C:∀y,hi=some y->TR g st.R st.nR (rd st.T (cOp K y)) (a.eval y):=λy hl=>k y (by simp[ho,Op.operands,hl]);obtain⟨blk,base,room,r,s,a3,a4,a5,F⟩:=(k x (by simp[ho,Op.operands])).ptr (ah h3);obtain⟨c,G,fr,hc⟩:=hr0.cells _ _ _ _ _ a5;have H:=hc.room;have B:=uH (P:=P) hl C h1 h2 false d f (qqf n) w;have hz:z=bF (ps (rd st.T (cOp K x))) (pz (rd st.T (cOp K x))) (bnd st.T (hi.map (cOp K)) n-bnd st.T (b.map (cOp K)) 0) i.size (po (rd st.T (cOp K x))+bnd st.T (b.map (cOp K)) 0*i.size):=by
  rw[<-m];have:rd st.T (cOp K x)%4503599627370496=5+16*ps (rd st.T (cOp K x))+268435456*pz (rd st.T (cOp K x)):=by
   conv=>lhs;rw[r]
   unfold dU;omega
  rw[this];unfold bF;omega
 generalize bnd st.T (b.map (cOp K)) 0=l at*;generalize bnd st.T (hi.map (cOp K)) n=h at*;have q:∀u v:Nat,u<=v->u*i.size<=v*i.size:=λu v E=>jqo _ E;have I:=q h n f;have J:(h-l)*i.size=h*i.size-l*i.size:=Nat.sub_mul _ _ _;have L:(n-l)*i.size=n*i.size-l*i.size:=Nat.sub_mul _ _ _;have M:=q l h d;refine⟨A.symm,.slice (some (if n=l then⟨blk,base+po (rd st.T (cOp K x)),none⟩else Addr.add ⟨blk,base+po (rd st.T (cOp K x)),none⟩ (l*i.size))) (h-l) (n-l),?_,?_⟩;·simp only[execOp,ho,Instr.sliceAt,jqa ht,s,Instr.sureAddr,Option.map_none,qjm,B,qjl,dG D,jzk]
 ·rw[hz];have p:po (rd st.T (cOp K x))+l*i.size+(h-l)*i.size<=pz (rd st.T (cOp K x)):=oqo;by_cases hc:n=l;·rw[qzb hc];exact .cell _ _ (.sli _ _ _ _ _ blk base room _ _ a3 a4 oqo he a5 p oqo (.inl oqo))
  ·rw[qzc hc];refine .cell _ _ (.sli _ _ _ _ _ blk base room _ _ a3 a4 oqo he a5 p oqo (.inr ⟨?_,by omega⟩));show Addr.add _ _=_;rw[kG,jqu]
def Mf(x:Opd)(a hi:Option Opd)(st:St):RS:=sel (qL st.T a) (sel (qL st.T hi) (sel (Nat.beq (Nat.mod (rd st.T x) 16) 3) (sel (Nat.ble (bnd st.T a 0) (bnd st.T hi (ln (rd st.T x)))) (sel (Nat.ble (bnd st.T hi (ln (rd st.T x))) (ln (rd st.T x))) (sel (Nat.blt (Nat.add (sa (rd st.T x)) (bnd st.T a 0)) 4294967296)
  (.ok (Nat.add (Nat.add 3 (Nat.mul 16 (Nat.sub (bnd st.T hi (ln (rd st.T x))) (bnd st.T a 0)))) (Nat.mul 268435456 (Nat.add (sa (rd st.T x)) (bnd st.T a 0)))) st) .no) .no) .no) .no) .no) .no
def Qj{t:TypeId}{x:Operand}{d hi:Option Operand}(ho:o.op=.slice t x d hi none)(ht:P.underlying t=some .string):OpV P K o (Mf (cOp K x) (d.map (cOp K)) (hi.map (cOp K))):=.pure λg st a w z st' _ hr0 i e=>by
 unfold Mf at e;obtain⟨h1,e⟩:=ae e;obtain⟨h2,e⟩:=ae e;obtain⟨h3,e⟩:=ae e;obtain⟨f,e⟩:=ae e;obtain⟨b,e⟩:=ae e;obtain⟨c,e⟩:=ae e;injection e with j m;have f:=fF f;have b:=fF b;have c:=aT c;simp only[nA,nM,Ev.nS]at j c;have hl:∀y,d=some y->TR g st.R st.nR (rd st.T (cOp K y)) (a.eval y):=λy hl=>i y (by simp[ho,Op.operands,hl]);have p:∀y,hi=some y->TR g st.R st.nR (rd st.T (cOp K y)) (a.eval y):=λy hl=>i y (by simp[ho,Op.operands,hl]);obtain⟨q,k,a3,a4,a5⟩:=(i x (by simp[ho,Op.operands])).str (ah h3);have n:=uH (P:=P) hl p h1 h2 false f b (qqf _) w;generalize bnd st.T (d.map (cOp K)) 0=l at*;generalize bnd st.T (hi.map (cOp K)) (ln (rd st.T (cOp K x)))=h at*;refine⟨m.symm,.string (strOf g.S (sa (rd st.T (cOp K x))+l) (h-l)),?_,?_⟩;·simp only[execOp,ho,Instr.sliceAt,Instr.slice,jqa ht,k,Option.map_none,jxh,qjm,qjl,gD,jzk];rw[qzc (by decide)];simp only[qjm,n,qjl,jzk,vD _ _ _ _ _ b]
 ·have:z=dE (sa (rd st.T (cOp K x))+l) (h-l):=by rw[<-j];rfl
  rw[this];exact .cell _ _ (.str _ _ oqo oqo c)
end
end Ev
namespace Ev
def rep(s z:Nat):Nat->Nat:=λn=>Nat.rec 0 (λ_ r=>ad z s r) n
def QU(s z n:Nat):rep s z (n+1)=ad z s (rep s z n):=rfl
def NM{s z:Nat}(hz:z<2^(128*s)):∀n,rep s z n<2^(128*(n*s))/\∀j,j<n*s->gt (rep s z n) j=gt z (j%s)
 |0=>⟨by rw[jzr];exact Nat.two_pow_pos _,λj hj=>by omega⟩|n+1=>by
  obtain⟨h1,h2⟩:=NM hz n;have b:(n+1)*s=s+n*s:=by rw[Nat.succ_mul,Nat.add_comm]
  rw[QU,b];refine⟨iJ hz h1,λj hj=>?_⟩;rw[dK _ _ hz];by_cases a:j<s;·rw[qzb a,qje a]
  ·rw[qzc a,h2 _ oqo];congr 1;rw[<-Nat.mod_eq_sub_mod oqo]
section
variable {P:Program}{K:Kon}{o:Oper}
def Sz(size z:Nat)(l c:Opd)(st:St):RS:=sel (sP (rd st.T l)) (sel (sP (rd st.T c)) (sel (Nat.ble (ixN (rd st.T l)) (ixN (rd st.T c))) (sel (Nat.beq (ixN (rd st.T c)) 0) (.ok 57 st)
  (sel (Nat.blt st.nM 16777216) (sel (Nat.blt (ixN (rd st.T c)) 16777216) (sel (Nat.blt (Nat.mul (ixN (rd st.T c)) size) 16777216) (fc (ad st.M st.nM (rep size z (ixN (rd st.T c)))) λM=> .ok (Nat.add (Nat.add (Nat.add (Nat.add 7 (Nat.mul 16 st.nM)) (Nat.mul 268435456 (Nat.mul (ixN (rd st.T c)) size))) (Nat.mul 4503599627370496 (ixN (rd st.T l)))) (Nat.mul 75557863725914323419136 size))
    (setM M (Nat.add (Nat.add st.nM (Nat.mul (ixN (rd st.T c)) size)) 1) st)) .no) .no) .no)) .no) .no) .no
def run_make{t el:TypeId}{q:TypeInfo}{z:Value}(ht:P.underlying t=some (.slice el))(a:P.info? el=some q)(hz:q.zero=some z)(b:q.bytes<=16777216)(k f:IntKind)(l c:Nat)(h:l<=c)(hc:c<16777216)(w:World):(Instr.makeSlice t (.int k (l:Int)) (.int f (c:Int))).run P w= .ok (.slice (some ⟨w.heap.size,0,none⟩) l c) (w.alloc (.cells (if c*q.size=0 then(Array.range (c*q.size)).map (λi=>(#[]:Array Value)[i%(#[]:Array Value).size]!)else(Array.range (c*q.size)).map (λi=>z.cells[i%z.cells.size]!)) el)):=by
 have w1:IntKind.i64.wrap (l:Int)=l:=wrap_small _ oqo oqo;have g:IntKind.i64.wrap (c:Int)=c:=wrap_small _ oqo oqo;have hm:q.bytes*c<=281474976710656:=qzi (Nat.mul_le_mul b (qzs hc)) (by decide);have d:¬((q.bytes:Int)*(c:Int)>2^48):=by have:=Int.ofNat_le.2 hm;rw[Int.natCast_mul]at this;omega
 have h1:¬((c:Int)<0):=oqo;have h2:¬((l:Int)<0):=oqo;have h3:¬((l:Int)>(c:Int)):=oqo;have e:(askRoom (c*q.bytes)).run P w=.ok () w:=by unfold askRoom;split<;>rfl
 simp only[Instr.makeSlice,asInt,asIntOf,qjm,jqa ht,jzk,qjl,kr a,w1,g,h1,h2,h3,d,decide_false,Bool.or_self,qzr,jxa,jzf,e,dG a];by_cases h0:c*q.size=0;·simp only[qzb h0,jzk,qjl,newRow,qjm,run_newObj_alloc]
 ·simp only[qzc h0,zeroValue,qjm,kr a,hz,jzk,qjl,newRow,run_newObj_alloc]
def Vj{t el:TypeId}{l c:Operand}{q:TypeInfo}{z:Value}(ho:o.op=.makeSlice t l c)(ht:P.underlying t=some (.slice el))(D:P.info? el=some q)(hz:q.zero=some z)(A:q.bytes<=16777216)(h0:0<q.size)(he:q.size<256)(hs:z.cells.size=q.size)(J:eD K z.cells.toList=true):OpV P K o (Sz q.size (bV K z.cells.toList) (cOp K l) (cOp K c)):=λg st a w x st' hk B F e=>by unfold Sz at e;obtain⟨h1,e⟩:=ae e;obtain⟨h2,e⟩:=ae e;obtain⟨h3,e⟩:=ae e;have h3:=fF h3;obtain⟨k1,p⟩:=(F l (by simp[ho,Op.operands])).ixN h1;obtain⟨k2,r⟩:=(F c (by simp[ho,Op.operands])).ixN h2;revert e h3 p r;generalize ixN (rd st.T (cOp K l))=d;generalize ixN (rd st.T (cOp K c))=b;intro e h3 p r;cases hc:Nat.beq b 0 with|true=>rw[hc,aj]at e;injection e with f k;have hc:=ah hc;subst hc;have:d=0:=oqo;subst this;subst k;have hr:=run_make ht D hz A k1 k2 0 0 (qqf _) (by decide) w;obtain⟨v,y⟩:=B.push (.cells (if 0*q.size=0 then(Array.range (0*q.size)).map (λi=>(#[]:Array Value)[i%(#[]:Array Value).size]!)else(Array.range (0*q.size)).map (λi=>z.cells[i%z.cells.size]!)) el);refine⟨g,_,.slice (some ⟨w.heap.size,0,none⟩) 0 0,.inl ?_,⟨v,y,Ext.refl _ _,by rw[<-f];exact .cell _ _ (.semp _),rfl,rfl⟩,λq=>absurd q (by simp[ho,dC])⟩;simp only[execOp,ho,p,r,qjm,hr,qjl];rfl|false=>
  rw[hc,ag]at e;obtain⟨s,e⟩:=ae e;obtain⟨u,e⟩:=ae e;obtain⟨m,e⟩:=ae e;rw[bX]at e;injection e with f k;have hc:=gM hc;have s:=aT s;have u:=aT u;have m:=aT m;simp only[nA,nM]at f k m;obtain⟨c1,c2⟩:=jJ hk J;rw[jql,hs]at c1 c2;obtain⟨v,y⟩:=NM c1 b;have M:b*q.size≠0:=λh=>by rcases Nat.mul_eq_zero.1 h with h|h<;>omega
  have I:∀j,j<b*q.size->((Array.range (b*q.size)).map (λi=>z.cells[i%z.cells.size]!)).getD j undef=z.cells.getD (j%q.size) undef:=λj hj=>by
   have C:j%q.size<z.cells.size:=by rw[hs];exact Nat.mod_lt _ h0
   rw[qqg,Array.getElem?_map,Array.getElem?_range,qzb hj];simp only[jqf,qzm,hs];rw[getElem!_pos z.cells _ C,qqg,jqi C];rfl
  have E:∀j,j<b*q.size->VR g (gt (rep q.size (bV K z.cells.toList) b) j) (((Array.range (b*q.size)).map (λi=>z.cells[i%z.cells.size]!)).getD j undef):=λj hj=>by rw[I j hj,y j hj];have:=c2 (j%q.size) (Nat.mod_lt _ h0);rwa[qqm,qjf,<-qqg]at this
  have N:d*q.size<=b*q.size:=jqo _ h3;have L:7+16*st.nM+268435456*(b*q.size)+4503599627370496*d+75557863725914323419136*q.size=x:=f;obtain⟨G,H⟩:=B.alloc ((Array.range (b*q.size)).map (λi=>z.cells[i%z.cells.size]!)) el (0,0) (n:=b*q.size) (cw:=rep q.size (bV K z.cells.toList) b) (by simp) v E (λi hi=>(E i (by simpa using hi)).one) (.inl rfl);have hr:=run_make ht D hz A k1 k2 d b h3 u w;rw[qzc M]at hr;subst k;refine⟨_,_,.slice (some ⟨w.heap.size,0,none⟩) d b,.inl ?_,⟨G,H,Ext.refl _ _,?_,rfl,rfl⟩,λq=>absurd q (by simp[ho,dC])⟩;rotate_left;·rw[<-L];have:7+16*st.nM+268435456*(b*q.size)+4503599627370496*d+75557863725914323419136*q.size=bF st.nM (b*q.size) d q.size 0:=rfl;rw[this];exact .cell _ _ (.sli st.nM _ d q.size 0 w.heap.size 0 _ b ⟨w.heap.size,0,none⟩ s m oqo he (by rw[Gh.bK,qzb rfl]) oqo h3 (.inr ⟨rfl,by simp⟩))
  ·simp only[execOp,ho,p,r,qjm,hr,qjl];rfl
structure Src where
 n:Nat
 c:Nat
def vY{t u el:TypeId}{d:TypeDesc}{q:TypeInfo}(ht:P.underlying t=some (.slice el))(hu:P.underlying u=some d)(hd:d=.string\/∃c,d=.slice c)(f:P.info? el=some q)(k:TypeId){xv:Value}{n b e:Nat}{ba:Option Addr}(hl:Builtin.lenOf xv=pure n)(g:b+n<=e){h:Array Value}{w w':World}(hf:(Builtin.firstCells q.size n xv).run P w=.ok h w)(j:∀a,ba=some a->(storeCells (a.add (b*q.size)) h.toList).run P w=.ok () w')(i:ba=none->w'=w):(Builtin.append_ #[t,u] k #[.slice ba b e,xv]).run P w=.ok (.slice ba (b+n) e) w':=by cases ba with|none=>have:=i rfl;subst this;rcases hd with rfl|⟨c,rfl⟩<;>simp[Builtin.append_,jqa ht,jqa hu,dG f,hl,g,hf]|some a=>have h1:=j a rfl;rcases hd with rfl|⟨c,rfl⟩<;>simp[Builtin.append_,jqa ht,jqa hu,dG f,hl,g,hf,h1]
def GI{t u el:TypeId}{d:TypeDesc}{q:TypeInfo}{z:Value}(ht:P.underlying t=some (.slice el))(hu:P.underlying u=some d)(hd:d=.string\/∃c,d=.slice c)(e:P.info? el=some q)(hz:q.zero=some z)(l:TypeId){xv:Value}{n a b:Nat}{ba:Option Addr}(hl:Builtin.lenOf xv=pure n)(r:b<a+n)(m:((a+n:Nat):Int)<=9223372036854775807)(p:Builtin.nextslicecap (a+n) b*q.bytes<=281474976710656){g f:Array Value}{w:World}(i:∀w':World,w'.heap=w.heap->(Builtin.firstCells q.size a (.slice ba a b)).run P w'=.ok g w')(hf:∀w':World,w'.heap=w.heap->(Builtin.firstCells q.size n xv).run P w'=.ok f w'):(Builtin.append_ #[t,u] l #[.slice ba a b,xv]).run P w= .ok (.slice (some ⟨w.heap.size,0,none⟩) (a+n) (grownCap w (a+n) b el)) (w.drew.alloc (.cells (g++f++Builtin.zeroCells z.cells (grownCap w (a+n) b el-(a+n))) el)):=by
 have h:¬(a+n<=b):=oqo;have h1:¬(9223372036854775807<((a:Int)+(n:Int))):=oqo;have h2:¬(281474976710656<Builtin.nextslicecap (a+n) b*q.bytes):=oqo;have j:=i w.drew rfl;have f1:=hf w.drew rfl;have hr:∀(k:Nat)(w:World),(askRoom k).run P w=.ok () w:=λk w=>by unfold askRoom;split<;>rfl
 rcases hd with rfl|⟨c,rfl⟩<;>simp[Builtin.append_,jqa ht,jqa hu,dG e,kr e,zeroValue,hz,hl,h,h1,h2,Question.forced,f1,j,hr,newRow,grownCap]
end
end Ev
namespace Ev
section
variable {P:Program}{K:Kon}{o:Oper}
def kX{w w':World}(h:w'.heap=w.heap)(a:Addr):w'.cell? a=w.cell? a:=by unfold World.cell?;rw[h]
def rX{g:Gh}{st:St}{w:World}(c:HR g st w){blk base room cap z s q e n l:Nat}{a:Addr}(hr:g.rho s=.cells blk base z room)(h1:q+l*e<=z)(h2:l<=cap)(ha:cap=0\/(a=⟨blk,base+q,none⟩/\q+cap*e<=room))(hn:n<=l): ∃cs:Array Value,cs.size=n*e/\(∀w':World,w'.heap=w.heap->(loadCells a (n*e)).run P w'=.ok cs w')/\∀j,j<n*e->VR g (gt (ch st.M (s+q) (n*e)) j) (cs.getD j undef):=by
 by_cases h0:n*e=0;·refine⟨#[],by rw[h0];rfl,λw' _=>by rw[h0];rfl,λj hj=>by omega⟩
 ·have d:n≠0:=λh=>h0 (by rw[h,jzr]);obtain⟨rfl,_⟩:=ha.resolve_left oqo;have hm:n*e<=l*e:=jqo _ hn;have b:∀j,j<n*e->∃v,w.cell? ⟨blk,base+q+j,none⟩=some v/\VR g (gt st.M (s+q+j)) v:=λj hj=>by have:=c.load (o:=q+j) hr oqo;rwa[<-jqu,<-jqu]at this
  let f:Nat->Value:=λj=>(w.cell? ⟨blk,base+q+j,none⟩).getD undef;refine⟨((List.range (n*e)).map f).toArray,by simp,λw' hw=>?_,λj hj=>?_⟩;·refine run_loadCells w' _ _ f λj hj=>?_;obtain⟨v,hv,_⟩:=b j hj;rw[kG,kX hw,hv];simp[f,hv]
  ·rw[jW,qzb hj];obtain⟨v,hv,hr⟩:=b j hj;have:(((List.range (n*e)).map f).toArray).getD j undef=v:=by simp[hj,f,hv]
   rw[this];exact hr
def wK(S q n:Nat):Nat:=dZ ((List.range n).map λi=>Nat.add 2361183241434822606914 (Nat.mul 256 (aH S (Nat.add q i))))
def Df(g:Gh)(S q n:Nat):wK S q n<2^(128*n)/\∀j,j<n->VR g (gt (wK S q n) j) (.int .u8 (aH S (q+j):Nat)):=by
 have hw:∀w∈(List.range n).map (λi=>Nat.add 2361183241434822606914 (Nat.mul 256 (aH S (Nat.add q i)))),w<2^128:=λw hm=>by obtain⟨i,_,rfl⟩:=qjb.1 hm;have:=jK S (q+i);show 2361183241434822606914+256*aH S (q+i)<_;omega
 refine⟨by have:=mF _ hw;rwa[qqv,List.length_range]at this,λj hj=>?_⟩;rw[wK,gQ _ _ hw,qqm,qqp,qqz hj,jqf,qzm];show VR g (2361183241434822606914+256*aH S (q+j)) _;rw[<-Jq];have:=jK S (q+j);exact .int _ _ oqo oqo
def Aw(size a:Nat)(st:St):Option Src:=sel (Nat.beq (Nat.mod a 16) 7) (sel (Nat.beq (se a) size) (some ⟨sl a,ch st.M (Nat.add (ps a) (so a)) (Nat.mul (sl a) size)⟩) none)
  (sel (Nat.beq (Nat.mod a 16) 3) (sel (Nat.beq size 1) (some ⟨ln a,wK st.S (sa a) (ln a)⟩) none) (sel (Nat.beq a 6) (some ⟨0,0⟩) (sel (Nat.beq a 57) (some ⟨0,0⟩) none)))
def Nn{g:Gh}{st:St}{w:World}(s:HR g st w){R nR d size:Nat}{xv:Value}(m:TR g R nR d xv){n c:Nat}(e:Aw size d st=some ⟨n,c⟩):Builtin.lenOf xv=pure n/\n<16777216/\c<2^(128*(n*size))/\∃l:Array Value,l.size=n*size/\(∀w':World,w'.heap=w.heap->(Builtin.firstCells size n xv).run P w'=.ok l w')/\∀j,j<n*size->VR g (gt c j) (l.getD j undef):=by
 unfold Aw at e;have zero:∀b:Option Addr,xv=.slice b 0 0->n=0->c=0->Builtin.lenOf xv=pure n/\n<16777216/\c<2^(128*(n*size))/\∃l:Array Value,l.size=n*size/\(∀w':World,w'.heap=w.heap->(Builtin.firstCells size n xv).run P w'=.ok l w')/\∀j,j<n*size->VR g (gt c j) (l.getD j undef):=by rintro b rfl rfl rfl;refine⟨rfl,by decide,Nat.two_pow_pos _,#[],by rw[jzr];rfl,λw' _=>?_,λj hj=>by rw[jzr]at hj;omega⟩;cases b with|none=>rfl|some a=>rw[Builtin.firstCells,jzr];rfl
 cases h1:Nat.beq (Nat.mod d 16) 7 with
 |true=>rw[h1,aj]at e;cases h2:Nat.beq (se d) size with|false=>rw[h2]at e;cases e|true=>rw[h2,aj]at e;injection e with e;injection e with k f;have h2:=ah h2;simp only[nA,nM]at f;obtain⟨blk,base,room,cap,ad,t,h,a3,a4,a5,y,u,r,a9,q⟩:=m.sli (ah h1);subst k;rw[h2]at r q;obtain⟨cs,c1,c2,c3⟩:=rX (P:=P) s u r a9 q (qqf _);refine⟨by rw[h];rfl,a5,by rw[<-f];exact jT _ _ _,cs,c1,λw' hw=>by rw[h];exact c2 w' hw,by rw[<-f];exact c3⟩
 |false=>rw[h1,ag]at e;cases h2:Nat.beq (Nat.mod d 16) 3 with
  |true=>rw[h2,aj]at e;cases h3:Nat.beq size 1 with|false=>rw[h3]at e;cases e|true=>
    rw[h3,aj]at e;injection e with e;injection e with k f;have h3:=ah h3;subst h3;obtain⟨t,h,a3,a4,a5⟩:=m.str (ah h2);subst k;obtain⟨v,x⟩:=Df g st.S (sa d) (ln d);rw[jzc];refine⟨by rw[h,Builtin.lenOf,gD],a3,by rw[<-f];exact v,((List.range (ln d)).map λj=>Value.int .u8 (aH st.S (sa d+j):Nat)).toArray,by simp,λw' _=>?_,λj hj=>?_⟩;·rw[h,Builtin.firstCells,vD _ _ _ _ _ (qqf _),s.S];simp only[jzk,qzz,Nat.sub_zero];congr 1;apply jxt;rw[Array.toList_map,bL,qzx];refine jqj λi _=>?_;simp only[Function.comp];rw[byte_toNat]
    ·rw[<-f];have:=x j hj;simpa [hj]using this
  |false=>rw[h2,ag]at e;cases h3:Nat.beq d 6 with|true=>rw[h3,aj]at e;injection e with e;injection e with k f;exact zero _ (m.nil (ah h3)) k.symm f.symm|false=>rw[h3,ag]at e;cases p:Nat.beq d 57 with|false=>rw[p]at e;cases e|true=>rw[p,aj]at e;injection e with e;injection e with k f;obtain⟨ad,h⟩:=m.emp (ah p);exact zero _ h k.symm f.symm
def slB(w:Nat):Bool:=sel (Nat.beq (Nat.mod w 16) 7) true (sel (Nat.beq w 6) true (Nat.beq w 57))
def pY(n size M c:Nat)(st:St):RS:=sel (Nat.blt st.nM 16777216) (sel (Nat.blt n 16777216) (sel (Nat.blt (Nat.mul n size) 16777216) (fc (ad M st.nM c) λM=> .ok (Nat.add (Nat.add (Nat.add (Nat.add 7 (Nat.mul 16 st.nM)) (Nat.mul 268435456 (Nat.mul n size))) (Nat.mul 4503599627370496 n)) (Nat.mul 75557863725914323419136 size))
   (setM M (Nat.add (Nat.add st.nM (Nat.mul n size)) 1) st)) .no) .no) .no
def MG(size:Nat)(s x:Opd)(st:St):RS:=Option.rec .no (λq=>Src.rec (λn c=>sel (Nat.beq n 0) (sel (slB (rd st.T s)) (.ok (rd st.T s) st) .no)
   (sel (Nat.beq (Nat.mod (rd st.T s) 16) 7)
    (sel (Nat.beq (se (rd st.T s)) size) (sel (Nat.beq (gt st.M (ps (rd st.T s))) 0) .no (sel (Nat.beq (pz (rd st.T s)) 0) .no
     (pY (Nat.add (sl (rd st.T s)) n) size (up st.M (ps (rd st.T s)) (pz (rd st.T s)) 0)
      (ad (ch st.M (Nat.add (ps (rd st.T s)) (so (rd st.T s))) (Nat.mul (sl (rd st.T s)) size)) (Nat.mul (sl (rd st.T s)) size) c) st))) .no)
    (sel (Nat.beq (rd st.T s) 6) (pY n size st.M c st) (sel (Nat.beq (rd st.T s) 57) (pY n size st.M c st) .no)))) q) (Aw size (rd st.T x) st)
def Fq{n size M c z:Nat}{st st':St}(e:pY n size M c st=.ok z st'):st.nM<16777216/\n<16777216/\n*size<16777216/\z=bF st.nM (n*size) n size 0/\st'={st with M:=ad M st.nM c,nM:=st.nM+n*size+1}:=by unfold pY at e;obtain⟨h1,e⟩:=ae e;obtain⟨h2,e⟩:=ae e;obtain⟨h3,e⟩:=ae e;rw[bX]at e;injection e with a b;have h1:=aT h1;have h2:=aT h2;have h3:=aT h3;simp only[nA,nM]at a b h3;exact⟨h1,h2,h3,a.symm,b.symm⟩
def RD{z:Value}(h:∀v∈z.cells.toList,v.oneCell'=true)(n i:Nat)(hi:i<(Builtin.zeroCells z.cells n).size):((Builtin.zeroCells z.cells n).getD i undef).oneCell'=true:=by
 unfold Builtin.zeroCells at*;have a:i<n*z.cells.size:=by simpa using hi
 have c:0<z.cells.size:=by
  rcases Nat.eq_zero_or_pos z.cells.size with h|h;·rw[h,Nat.mul_zero]at a;omega
  ·exact h
 have b:i%z.cells.size<z.cells.size:=Nat.mod_lt _ c;rw[qqg,Array.getElem?_map,Array.getElem?_range,qzb a];simp only[jqf,qzm];rw[getElem!_pos z.cells _ b];exact h _ (by simp)
end
end Ev
namespace Ev
section
variable {P:Program}{K:Kon}{o:Oper}
def Cw{t u:TypeId}{s x:Operand}(ho:o.op=.call {callee:=.builtin .append,args:=#[s,x],argTypes:=#[t,u]})(a:Act)(w:World){v:Value}{w':World}(h:(Builtin.append_ #[t,u] o.type #[a.eval s,a.eval x]).run P w=.ok v w'):(execOp a.eval o).run P w=.ok (.value v) w':=by simp[execOp,ho,resolve,invoke,builtin,h]
def yl{K:Kon}{l:List Value}(a:eD K l=true):∀v∈l,v.oneCell'=true:=λv hv=>by have h:=qqw.1 a v hv;cases v<;>first|rfl|(exfalso;exact absurd h (by simp only[cV];decide))
def Bt{g:Gh}{st:St}{w:World}(a:Nat)(p:HR g {st with M:=a} w){n size c cap z:Nat}{st':St}{el:TypeId}{cs rest:Array Value}(e:pY n size a c st=.ok z st')(he:size<256)(f:cs.size=n*size)(hc:c<2^(128*(n*size)))(hv:∀j,j<n*size->VR g (gt c j) (cs.getD j undef))(d:n<=cap)(q:rest.size=(cap-n)*size)(r:∀i,i<rest.size->(rest.getD i undef).oneCell'=true)(fr:Nat×Nat)(m:ry fr (cs++rest).size): ∃g',Post g st w g' st' (w.drew.alloc (.cells (cs++rest) el fr)) z (.slice (some ⟨w.heap.size,0,none⟩) n cap):=by
 obtain⟨h1,h2,h3,k,l⟩:=Fq e;have hd:HR g {st with M:=a} w.drew:=HR.congr (w:=w) rfl p;have x:(cs++rest).size=cap*size:=by rw[jjj,f,q,<-jxe];congr 1;omega
 have h:∀j,(cs++rest).getD j undef=if j<n*size then cs.getD j undef else rest.getD (j-n*size) undef:=λj=>by rw[qqg,jxk,f];split<;>rw[<-qqg]
 have u:n*size<=cap*size:=jqo _ d;have v:(cap-n)*size=cap*size-n*size:=Nat.sub_mul _ _ _;obtain⟨s,t⟩:=hd.alloc (cs++rest) el fr (n:=n*size) (cw:=c) oqo hc (λj hj=>by rw[h,qzb hj];exact hv j hj)
  (λj hj=>by
   rw[h];by_cases b:j<n*size;·rw[qzb b];exact(hv j b).one
   ·rw[qzc b];exact r _ oqo) m;have hf:Fr g w (g.put st.nM (.cells w.heap.size 0 (n*size) (cs++rest).size)) (w.drew.alloc (.cells (cs++rest) el fr)):=Fr.trans (Fr.drew g w (w.drawn+1)) t;subst l;refine⟨_,s,hf,Ext.refl _ _,?_,rfl,rfl⟩;rw[k];exact .cell _ _ (.sli st.nM (n*size) n size 0 w.heap.size 0 (cs++rest).size cap ⟨w.heap.size,0,none⟩ h1 h3 h2 he (by show(g.put _ _).rho _=_;rw[Gh.bK,qzb rfl];rfl) oqo d (.inr ⟨rfl,by omega⟩))
def Hg{t u el:TypeId}{d:TypeDesc}{s x:Operand}{q:TypeInfo}{z:Value}(ho:o.op=.call {callee:=.builtin .append,args:=#[s,x],argTypes:=#[t,u]})(ht:P.underlying t=some (.slice el))(hu:P.underlying u=some d)(hd:d=.string\/∃e',d=.slice e')(J:P.info? el=some q)(hz:q.zero=some z)(hs:z.cells.size=q.size)(hb:eD K z.cells.toList=true)(h0:0<q.size)(he:q.size<256)(d0:q.bytes<=1048576):OpV P K o (MG q.size (cOp K s) (cOp K x)):=λg st a w H st' hk m Y e=>by unfold MG at e;have k:=Y s (by simp[ho,Op.operands,Call.operands]);have p0:=Y x (by simp[ho,Op.operands,Call.operands]);cases O:Aw q.size (rd st.T (cOp K x)) st with|none=>rw[O]at e;cases e|some qq=>
  obtain⟨n,c⟩:=qq;rw[O]at e;obtain⟨Q,s2,R,G,S,T,U⟩:=Nn (P:=P) m p0 O;have x0:=RD (z:=z) (yl hb);dsimp only at e;have V:∀(B C:Nat)(ba:Option Addr)(L cap:Nat)(A:Array Value),HR g {st with M:=B} w->a.eval s=.slice ba L cap->L<16777216->cap<L+n->pY (L+n) q.size B C st=.ok H st'->A.size=L*q.size->(∀w':World,w'.heap=w.heap->(Builtin.firstCells q.size L (.slice ba L cap)).run P w'=.ok A w')->C<2^(128*((L+n)*q.size))->(∀j,j<(L+n)*q.size->VR g (gt C j) ((A++G).getD j undef))-> ∃g' w' v,((execOp a.eval o).run P w=.ok (.value v) w'\/((execOp a.eval o).run P w=.ok .skip w'/\v=undef))/\Post g st w g' st' w' H v/\(dC P o.op=true->w'=w\/(g'=g/\st'=st/\ma w w')):=by
   intro B C ba L cap A g1 g2 g3 g4 g5 g6 g7 g8 g9;have e0:Builtin.nextslicecap (L+n) cap*q.bytes<=281474976710656:=growslice_fits g4 (qzi (Nat.mul_le_mul (show L+n<=33554432 by omega) d0) (by decide));have hr:=GI (P:=P) ht hu hd J hz o.type (xv:=a.eval x) Q g4 oqo e0 g7 T;have i0:=grownCap_ge w (L+n) cap el;obtain⟨g',hp⟩:=Bt (el:=el) (cs:=A++G) (rest:=Builtin.zeroCells z.cells (grownCap w (L+n) cap el-(L+n))) B g1 g5 he (by rw[jjj,g6,S,jxe]) g8 g9 i0
    (by rw[size_zeroCells,hs]) (λi hi=>x0 _ i hi) (0,0) (.inl rfl);exact⟨g',_,_,.inl (Cw ho a w (by rw[g2];exact hr)),hp,λq=>absurd q (by simp[ho,dC])⟩
  cases hn:Nat.beq n 0 with
  |true=>
   rw[hn,aj]at e;obtain⟨h1,e⟩:=ae e;injection e with e1 e2;have hn:=ah hn;subst hn;have m0:G=#[]:=jjk (by rw[S,jzr]);subst m0;have f0:(Builtin.firstCells q.size 0 (a.eval x)).run P w=.ok #[] w:=T w rfl;have key:∀(b:Option Addr)(l c:Nat),a.eval s=.slice b l c->l<=c->(execOp a.eval o).run P w=.ok (.value (a.eval s)) w:=λb l c hv l0=>by refine Cw ho a w ?_;rw[hv];exact vY (P:=P) ht hu hd J o.type (ba:=b) Q l0 f0 (λa _=>rfl) (λ_=>rfl)
   subst e2;rw[<-e1];refine⟨g,w,a.eval s,.inl ?_,.same m k,λq=>absurd q (by simp[ho,dC])⟩;unfold slB at h1;cases h2:Nat.beq (Nat.mod (rd st.T (cOp K s)) 16) 7 with|true=>obtain⟨blk,base,room,cap,ad,a1,f,a3,a4,a5,a6,E,F,a9,D⟩:=k.sli (ah h2);exact key _ _ _ f a9|false=>rw[h2,ag]at h1;cases h3:Nat.beq (rd st.T (cOp K s)) 6 with|true=>exact key _ _ _ (k.nil (ah h3)) (qqf _)|false=>rw[h3,ag]at h1;obtain⟨ad,f⟩:=k.emp (ah h1);exact key _ _ _ f (qqf _)
  |false=>rw[hn,ag]at e;have hn:=gM hn;cases h2:Nat.beq (Nat.mod (rd st.T (cOp K s)) 16) 7 with
   |true=>
    rw[h2,aj]at e;obtain⟨h3,e⟩:=ae e;obtain⟨r,e⟩:=oQ e;obtain⟨I,e⟩:=oQ e;have h3:=ah h3;have r:=gM r;have I:=gM I;simp only[nA,nM]at e;obtain⟨blk,base,room,cap,ad,a1,f,a3,a4,a5,a6,E,F,a9,D⟩:=k.sli (ah h2);rw[h3]at F D;obtain⟨cs,c1,c2,c3⟩:=rX (P:=P) m E F a9 D (qqf _);generalize so (rd st.T (cOp K s))=p at*;generalize sl (rd st.T (cOp K s))=L at*;generalize ps (rd st.T (cOp K s))=s0 at*;generalize pz (rd st.T (cOp K s))=z0 at*;have X:(L+n)*q.size=L*q.size+n*q.size:=jxe _ _ _;have y0:0<n*q.size:=Nat.mul_pos oqo h0;have W:=jT st.M (s0+p) (L*q.size);have hC:Ev.ad (ch st.M (s0+p) (L*q.size)) (L*q.size) c<2^(128*((L+n)*q.size)):=by rw[X];exact iJ W R
    by_cases N:L+n<=cap;·obtain⟨rfl,d1⟩:=D.resolve_left oqo;have hm:(L+n)*q.size<=cap*q.size:=jqo _ N;have r0:0<z0:=Nat.pos_of_ne_zero I;obtain⟨w',r1,r2,r3⟩:=m.Xm P (o:=p) (l:=L*q.size) (n:=n*q.size) (cw:=c) E ⟨0,r0,by rw[qzz];exact r⟩ F oqo R G.toList (by rw[jql,S]) (λi hi=>by have:=U i hi;rwa[qqm,qjf,<-qqg]);obtain⟨n1,n2,Z,n4,n5⟩:=Fq e;have o0:=vY (P:=P) ht hu hd J o.type (ba:=some ⟨blk,base+p,none⟩) Q N (T w rfl) (λa' ha=>by injection ha with ha;subst ha;rw[kG,jqu];exact r1) (λh=>by cases h);rw[X]at Z n4 n5;rw[n5];refine⟨_,w',_,.inl (Cw ho a w (by rw[f];exact o0)),⟨r2,r3,Ext.refl _ _,?_,rfl,rfl⟩,λq=>absurd q (by simp[ho,dC])⟩;rw[n4];exact .cell _ _ (.sli st.nM _ (L+n) q.size 0 blk (base+p) (room-p) cap _ n1 Z n2 he (by rw[Gh.bK,qzb rfl]) oqo N (.inr ⟨rfl,by omega⟩))
    ·have j0:=m.kill E;refine V _ _ (some ad) L cap cs j0 f a5 oqo e c1 (λw' hw=>c2 w' hw) hC (λj hj=>?_);rw[dK _ _ W,qqg,jxk,c1];by_cases y:j<L*q.size;·rw[qzb y,qzb y,<-qqg];exact c3 j y
     ·rw[qzc y,qzc y,<-qqg];exact U _ oqo|false=>
    rw[h2,ag]at e;have fin:∀b:Option Addr,a.eval s=.slice b 0 0->pY n q.size st.M c st=.ok H st'->∃g' w' v,((execOp a.eval o).run P w=.ok (.value v) w'\/((execOp a.eval o).run P w=.ok .skip w'/\v=undef))/\Post g st w g' st' w' H v/\(dC P o.op=true->w'=w\/(g'=g/\st'=st/\ma w w')):=λb hv e=>by
     refine V st.M c b 0 0 #[] m hv (by decide) oqo (by rw[qja];exact e) (by rw[jzr];rfl) (λw' _=>?_) (by rw[qja];exact R) (λj hj=>?_);·cases b with|none=>rfl|some ad=>rw[Builtin.firstCells,jzr];rfl
     ·rw[qja]at hj;rw[Array.empty_append];exact U j hj
    cases h3:Nat.beq (rd st.T (cOp K s)) 6 with|true=>rw[h3,aj]at e;exact fin _ (k.nil (ah h3)) e|false=>rw[h3,ag]at e;obtain⟨r,e⟩:=ae e;obtain⟨ad,f⟩:=k.emp (ah r);exact fin _ f e
end
end Ev
