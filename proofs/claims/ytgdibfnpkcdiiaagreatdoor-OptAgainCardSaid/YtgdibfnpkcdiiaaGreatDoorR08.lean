/- Joint text: EvM, EvN, EvO. By an AI agent. -/
import Derived.Test.YtgdibfnpkcdiiaaGreatDoorRzy
import Derived.Test.YtgdibfnpkcdiiaaGreatDoorR07
set_option linter.all false
set_option maxRecDepth 100000
set_option maxHeartbeats 64000000
noncomputable section
namespace Go.Proofs.YtgdibfnpkcdiiaaGreatDoor
namespace Ev
def rep(s z:Nat):Nat->Nat:=λn=>Nat.rec 0 (λ_ r=>ad z s r) n
theorem OC(s z n:Nat):rep s z (n+1)=ad z s (rep s z n):=rfl
theorem Lh{s z:Nat}(hz:z<2^(128*s)):∀n,rep s z n<2^(128*(n*s))/\∀j,j<n*s->gt (rep s z n) j=gt z (j%s)
 |0=>⟨by rw[jzh];exact Nat.two_pow_pos _,λj hj=>by omega⟩|n+1=>by
  obtain⟨h1,h2⟩:=Lh hz n;have b:(n+1)*s=s+n*s:=by rw[Nat.succ_mul,Nat.add_comm]
  rw[OC,b];refine⟨ic hz h1,λj hj=>?_⟩;rw[dM _ _ hz];by_cases a:j<s;·rw[qzb a,qje a]
  ·rw[qzc a,h2 _ oqo];congr 1;rw[<-Nat.mod_eq_sub_mod oqo]
section
variable {P:Program}{K:Kon}{o:Oper}
def Oc(size z:Nat)(l c:Opd)(st:St):RS:=sel (qY (rd st.T l)) (sel (qY (rd st.T c)) (sel (Nat.ble (ixN (rd st.T l)) (ixN (rd st.T c))) (sel (Nat.beq (ixN (rd st.T c)) 0) (.ok 57 st)
  (sel (Nat.blt st.nM 16777216) (sel (Nat.blt (ixN (rd st.T c)) 16777216) (sel (Nat.blt (Nat.mul (ixN (rd st.T c)) size) 16777216) (fc (ad st.M st.nM (rep size z (ixN (rd st.T c)))) λM=> .ok (Nat.add (Nat.add (Nat.add (Nat.add 7 (Nat.mul 16 st.nM)) (Nat.mul 268435456 (Nat.mul (ixN (rd st.T c)) size))) (Nat.mul 4503599627370496 (ixN (rd st.T l)))) (Nat.mul 75557863725914323419136 size))
    (setM M (Nat.add (Nat.add st.nM (Nat.mul (ixN (rd st.T c)) size)) 1) st)) .no) .no) .no)) .no) .no) .no
theorem run_make{t el:TypeId}{q:TypeInfo}{z:Value}(ht:P.underlying t=some (.slice el))(a:P.info? el=some q)(hz:q.zero=some z)(b:q.bytes<=16777216)(k f:IntKind)(l c:Nat)(h:l<=c)(hc:c<16777216)(w:World):(Instr.makeSlice t (.int k (l:Int)) (.int f (c:Int))).run P w= .ok (.slice (some ⟨w.heap.size,0,none⟩) l c) (w.alloc (.cells (if c*q.size=0 then(Array.range (c*q.size)).map (λi=>(#[]:Array Value)[i%(#[]:Array Value).size]!)else(Array.range (c*q.size)).map (λi=>z.cells[i%z.cells.size]!)) el)):=by
 have w1:IntKind.i64.wrap (l:Int)=l:=wrap_small _ oqo oqo;have g:IntKind.i64.wrap (c:Int)=c:=wrap_small _ oqo oqo;have hm:q.bytes*c<=281474976710656:=qzi (Nat.mul_le_mul b (qzs hc)) (by decide);have d:¬((q.bytes:Int)*(c:Int)>2^48):=by have:=Int.ofNat_le.2 hm;rw[Int.natCast_mul]at this;omega
 have h1:¬((c:Int)<0):=oqo;have h2:¬((l:Int)<0):=oqo;have h3:¬((l:Int)>(c:Int)):=oqo;have e:(askRoom (c*q.bytes)).run P w=.ok () w:=by unfold askRoom;split<;>rfl
 simp only[Instr.makeSlice,asInt,asIntOf,qjm,jqa ht,jzc,qjl,jJ a,w1,g,h1,h2,h3,d,decide_false,Bool.or_self,qzr,jxh,jxi,e,dF a];by_cases h0:c*q.size=0;·simp only[qzb h0,jzc,qjl,newRow,qjm,run_newObj_alloc]
 ·simp only[qzc h0,zeroValue,qjm,jJ a,hz,jzc,qjl,newRow,run_newObj_alloc]
theorem SY{t el:TypeId}{l c:Operand}{q:TypeInfo}{z:Value}(ho:o.op=.makeSlice t l c)(ht:P.underlying t=some (.slice el))(D:P.info? el=some q)(hz:q.zero=some z)(A:q.bytes<=16777216)(h0:0<q.size)(he:q.size<256)(hs:z.cells.size=q.size)(J:dZ K z.cells.toList=true):OpV P K o (Oc q.size (bW K z.cells.toList) (cOp K l) (cOp K c)):=λg st a w x st' hk B F e=>by unfold Oc at e;obtain⟨h1,e⟩:=ag e;obtain⟨h2,e⟩:=ag e;obtain⟨h3,e⟩:=ag e;have h3:=dY h3;obtain⟨k1,p⟩:=(F l (by simp[ho,Op.operands])).ixN h1;obtain⟨k2,r⟩:=(F c (by simp[ho,Op.operands])).ixN h2;revert e h3 p r;generalize ixN (rd st.T (cOp K l))=d;generalize ixN (rd st.T (cOp K c))=b;intro e h3 p r;cases hc:Nat.beq b 0 with|true=>rw[hc,ak]at e;injection e with f k;have hc:=ai hc;subst hc;have:d=0:=oqo;subst this;subst k;have hr:=run_make ht D hz A k1 k2 0 0 (qqf _) (by decide) w;obtain⟨v,y⟩:=B.push (.cells (if 0*q.size=0 then(Array.range (0*q.size)).map (λi=>(#[]:Array Value)[i%(#[]:Array Value).size]!)else(Array.range (0*q.size)).map (λi=>z.cells[i%z.cells.size]!)) el);refine⟨g,_,.slice (some ⟨w.heap.size,0,none⟩) 0 0,.inl ?_,⟨v,y,Ext.refl _ _,by rw[<-f];exact .cell _ _ (.semp _),rfl,rfl⟩,λq=>absurd q (by simp[ho,dB])⟩;simp only[execOp,ho,p,r,qjm,hr,qjl];rfl|false=>
  rw[hc,ah]at e;obtain⟨s,e⟩:=ag e;obtain⟨u,e⟩:=ag e;obtain⟨m,e⟩:=ag e;rw[bX]at e;injection e with f k;have hc:=fH hc;have s:=aY s;have u:=aY u;have m:=aY m;simp only[nA,nM]at f k m;obtain⟨c1,c2⟩:=jo hk J;rw[jqh,hs]at c1 c2;obtain⟨v,y⟩:=Lh c1 b;have M:b*q.size≠0:=λh=>by rcases Nat.mul_eq_zero.1 h with h|h<;>omega
  have I:∀j,j<b*q.size->((Array.range (b*q.size)).map (λi=>z.cells[i%z.cells.size]!)).getD j undef=z.cells.getD (j%q.size) undef:=λj hj=>by
   have C:j%q.size<z.cells.size:=by rw[hs];exact Nat.mod_lt _ h0
   rw[qqg,Array.getElem?_map,Array.getElem?_range,qzb hj];simp only[jqb,qzm,hs];rw[getElem!_pos z.cells _ C,qqg,jqd C];rfl
  have E:∀j,j<b*q.size->VR g (gt (rep q.size (bW K z.cells.toList) b) j) (((Array.range (b*q.size)).map (λi=>z.cells[i%z.cells.size]!)).getD j undef):=λj hj=>by rw[I j hj,y j hj];have:=c2 (j%q.size) (Nat.mod_lt _ h0);rwa[qqm,qjf,<-qqg]at this
  have N:d*q.size<=b*q.size:=jqk _ h3;have L:7+16*st.nM+268435456*(b*q.size)+4503599627370496*d+75557863725914323419136*q.size=x:=f;obtain⟨G,H⟩:=B.alloc ((Array.range (b*q.size)).map (λi=>z.cells[i%z.cells.size]!)) el (0,0) (n:=b*q.size) (cw:=rep q.size (bW K z.cells.toList) b) (by simp) v E (λi hi=>(E i (by simpa using hi)).one) (.inl rfl);have hr:=run_make ht D hz A k1 k2 d b h3 u w;rw[qzc M]at hr;subst k;refine⟨_,_,.slice (some ⟨w.heap.size,0,none⟩) d b,.inl ?_,⟨G,H,Ext.refl _ _,?_,rfl,rfl⟩,λq=>absurd q (by simp[ho,dB])⟩;rotate_left;·rw[<-L];have:7+16*st.nM+268435456*(b*q.size)+4503599627370496*d+75557863725914323419136*q.size=aX st.nM (b*q.size) d q.size 0:=rfl;rw[this];exact .cell _ _ (.sli st.nM _ d q.size 0 w.heap.size 0 _ b ⟨w.heap.size,0,none⟩ s m oqo he (by rw[Gh.bK,qzb rfl]) oqo h3 (.inr ⟨rfl,by simp⟩))
  ·simp only[execOp,ho,p,r,qjm,hr,qjl];rfl
structure Src where
 n:Nat
 c:Nat
theorem uD{t u el:TypeId}{d:TypeDesc}{q:TypeInfo}(ht:P.underlying t=some (.slice el))(hu:P.underlying u=some d)(hd:d=.string\/∃c,d=.slice c)(f:P.info? el=some q)(k:TypeId){xv:Value}{n b e:Nat}{ba:Option Addr}(hl:Builtin.lenOf xv=pure n)(g:b+n<=e){h:Array Value}{w w':World}(hf:(Builtin.firstCells q.size n xv).run P w=.ok h w)(j:∀a,ba=some a->(storeCells (a.add (b*q.size)) h.toList).run P w=.ok () w')(i:ba=none->w'=w):(Builtin.append_ #[t,u] k #[.slice ba b e,xv]).run P w=.ok (.slice ba (b+n) e) w':=by cases ba with|none=>have:=i rfl;subst this;rcases hd with rfl|⟨c,rfl⟩<;>simp[Builtin.append_,jqa ht,jqa hu,dF f,hl,g,hf]|some a=>have h1:=j a rfl;rcases hd with rfl|⟨c,rfl⟩<;>simp[Builtin.append_,jqa ht,jqa hu,dF f,hl,g,hf,h1]
theorem FC{t u el:TypeId}{d:TypeDesc}{q:TypeInfo}{z:Value}(ht:P.underlying t=some (.slice el))(hu:P.underlying u=some d)(hd:d=.string\/∃c,d=.slice c)(e:P.info? el=some q)(hz:q.zero=some z)(l:TypeId){xv:Value}{n a b:Nat}{ba:Option Addr}(hl:Builtin.lenOf xv=pure n)(r:b<a+n)(m:((a+n:Nat):Int)<=9223372036854775807)(p:Builtin.nextslicecap (a+n) b*q.bytes<=281474976710656){g f:Array Value}{w:World}(i:∀w':World,w'.heap=w.heap->(Builtin.firstCells q.size a (.slice ba a b)).run P w'=.ok g w')(hf:∀w':World,w'.heap=w.heap->(Builtin.firstCells q.size n xv).run P w'=.ok f w'):(Builtin.append_ #[t,u] l #[.slice ba a b,xv]).run P w= .ok (.slice (some ⟨w.heap.size,0,none⟩) (a+n) (grownCap w (a+n) b el)) (w.drew.alloc (.cells (g++f++Builtin.zeroCells z.cells (grownCap w (a+n) b el-(a+n))) el)):=by
 have h:¬(a+n<=b):=oqo;have h1:¬(9223372036854775807<((a:Int)+(n:Int))):=oqo;have h2:¬(281474976710656<Builtin.nextslicecap (a+n) b*q.bytes):=oqo;have j:=i w.drew rfl;have f1:=hf w.drew rfl;have hr:∀(k:Nat)(w:World),(askRoom k).run P w=.ok () w:=λk w=>by unfold askRoom;split<;>rfl
 rcases hd with rfl|⟨c,rfl⟩<;>simp[Builtin.append_,jqa ht,jqa hu,dF e,jJ e,zeroValue,hz,hl,h,h1,h2,Question.forced,f1,j,hr,newRow,grownCap]
end
end Ev
namespace Ev
section
variable {P:Program}{K:Kon}{o:Oper}
theorem CB{w w':World}(h:w'.heap=w.heap)(a:Addr):w'.cell? a=w.cell? a:=by unfold World.cell?;rw[h]
theorem qL{g:Gh}{st:St}{w:World}(c:HR g st w){blk base room cap z s q e n l:Nat}{a:Addr}(hr:g.rho s=.cells blk base z room)(h1:q+l*e<=z)(h2:l<=cap)(ha:cap=0\/(a=⟨blk,base+q,none⟩/\q+cap*e<=room))(hn:n<=l): ∃cs:Array Value,cs.size=n*e/\(∀w':World,w'.heap=w.heap->(loadCells a (n*e)).run P w'=.ok cs w')/\∀j,j<n*e->VR g (gt (ch st.M (s+q) (n*e)) j) (cs.getD j undef):=by
 by_cases h0:n*e=0;·refine⟨#[],by rw[h0];rfl,λw' _=>by rw[h0];rfl,λj hj=>by omega⟩
 ·have d:n≠0:=λh=>h0 (by rw[h,jzh]);obtain⟨rfl,_⟩:=ha.resolve_left oqo;have hm:n*e<=l*e:=jqk _ hn;have b:∀j,j<n*e->∃v,w.cell? ⟨blk,base+q+j,none⟩=some v/\VR g (gt st.M (s+q+j)) v:=λj hj=>by have:=c.load (o:=q+j) hr oqo;rwa[<-jqp,<-jqp]at this
  let f:Nat->Value:=λj=>(w.cell? ⟨blk,base+q+j,none⟩).getD undef;refine⟨((List.range (n*e)).map f).toArray,by simp,λw' hw=>?_,λj hj=>?_⟩;·refine run_loadCells w' _ _ f λj hj=>?_;obtain⟨v,hv,_⟩:=b j hj;rw[kg,CB hw,hv];simp[f,hv]
  ·rw[jF,qzb hj];obtain⟨v,hv,hr⟩:=b j hj;have:(((List.range (n*e)).map f).toArray).getD j undef=v:=by simp[hj,f,hv]
   rw[this];exact hr
def uX(S q n:Nat):Nat:=dV ((List.range n).map λi=>Nat.add 2361183241434822606914 (Nat.mul 256 (aN S (Nat.add q i))))
theorem BV(g:Gh)(S q n:Nat):uX S q n<2^(128*n)/\∀j,j<n->VR g (gt (uX S q n) j) (.int .u8 (aN S (q+j):Nat)):=by
 have hw:∀w∈(List.range n).map (λi=>Nat.add 2361183241434822606914 (Nat.mul 256 (aN S (Nat.add q i)))),w<2^128:=λw hm=>by obtain⟨i,_,rfl⟩:=qjb.1 hm;have:=jm S (q+i);show 2361183241434822606914+256*aN S (q+i)<_;omega
 refine⟨by have:=lS _ hw;rwa[qqv,List.length_range]at this,λj hj=>?_⟩;rw[uX,gy _ _ hw,qqm,qqp,qqz hj,jqb,qzm];show VR g (2361183241434822606914+256*aN S (q+j)) _;rw[<-GM];have:=jm S (q+j);exact .int _ _ oqo oqo
def Aa(size a:Nat)(st:St):Option Src:=sel (Nat.beq (Nat.mod a 16) 7) (sel (Nat.beq (se a) size) (some ⟨sl a,ch st.M (Nat.add (ps a) (so a)) (Nat.mul (sl a) size)⟩) none)
  (sel (Nat.beq (Nat.mod a 16) 3) (sel (Nat.beq size 1) (some ⟨ln a,uX st.S (sa a) (ln a)⟩) none) (sel (Nat.beq a 6) (some ⟨0,0⟩) (sel (Nat.beq a 57) (some ⟨0,0⟩) none)))
theorem Nj{g:Gh}{st:St}{w:World}(s:HR g st w){R nR d size:Nat}{xv:Value}(m:TR g R nR d xv){n c:Nat}(e:Aa size d st=some ⟨n,c⟩):Builtin.lenOf xv=pure n/\n<16777216/\c<2^(128*(n*size))/\∃l:Array Value,l.size=n*size/\(∀w':World,w'.heap=w.heap->(Builtin.firstCells size n xv).run P w'=.ok l w')/\∀j,j<n*size->VR g (gt c j) (l.getD j undef):=by
 unfold Aa at e;have zero:∀b:Option Addr,xv=.slice b 0 0->n=0->c=0->Builtin.lenOf xv=pure n/\n<16777216/\c<2^(128*(n*size))/\∃l:Array Value,l.size=n*size/\(∀w':World,w'.heap=w.heap->(Builtin.firstCells size n xv).run P w'=.ok l w')/\∀j,j<n*size->VR g (gt c j) (l.getD j undef):=by rintro b rfl rfl rfl;refine⟨rfl,by decide,Nat.two_pow_pos _,#[],by rw[jzh];rfl,λw' _=>?_,λj hj=>by rw[jzh]at hj;omega⟩;cases b with|none=>rfl|some a=>rw[Builtin.firstCells,jzh];rfl
 cases h1:Nat.beq (Nat.mod d 16) 7 with
 |true=>rw[h1,ak]at e;cases h2:Nat.beq (se d) size with|false=>rw[h2]at e;cases e|true=>rw[h2,ak]at e;injection e with e;injection e with k f;have h2:=ai h2;simp only[nA,nM]at f;obtain⟨blk,base,room,cap,ad,t,h,a3,a4,a5,y,u,r,a9,q⟩:=m.sli (ai h1);subst k;rw[h2]at r q;obtain⟨cs,c1,c2,c3⟩:=qL (P:=P) s u r a9 q (qqf _);refine⟨by rw[h];rfl,a5,by rw[<-f];exact jD _ _ _,cs,c1,λw' hw=>by rw[h];exact c2 w' hw,by rw[<-f];exact c3⟩
 |false=>rw[h1,ah]at e;cases h2:Nat.beq (Nat.mod d 16) 3 with
  |true=>rw[h2,ak]at e;cases h3:Nat.beq size 1 with|false=>rw[h3]at e;cases e|true=>
    rw[h3,ak]at e;injection e with e;injection e with k f;have h3:=ai h3;subst h3;obtain⟨t,h,a3,a4,a5⟩:=m.str (ai h2);subst k;obtain⟨v,x⟩:=BV g st.S (sa d) (ln d);rw[jzb];refine⟨by rw[h,Builtin.lenOf,fJ],a3,by rw[<-f];exact v,((List.range (ln d)).map λj=>Value.int .u8 (aN st.S (sa d+j):Nat)).toArray,by simp,λw' _=>?_,λj hj=>?_⟩;·rw[h,Builtin.firstCells,uk _ _ _ _ _ (qqf _),s.S];simp only[jzc,qzz,Nat.sub_zero];congr 1;apply jxj;rw[Array.toList_map,bM,qzx];refine jqg λi _=>?_;simp only[Function.comp];rw[byte_toNat]
    ·rw[<-f];have:=x j hj;simpa [hj]using this
  |false=>rw[h2,ah]at e;cases h3:Nat.beq d 6 with|true=>rw[h3,ak]at e;injection e with e;injection e with k f;exact zero _ (m.nil (ai h3)) k.symm f.symm|false=>rw[h3,ah]at e;cases p:Nat.beq d 57 with|false=>rw[p]at e;cases e|true=>rw[p,ak]at e;injection e with e;injection e with k f;obtain⟨ad,h⟩:=m.emp (ai p);exact zero _ h k.symm f.symm
def slB(w:Nat):Bool:=sel (Nat.beq (Nat.mod w 16) 7) true (sel (Nat.beq w 6) true (Nat.beq w 57))
def oI(n size M c:Nat)(st:St):RS:=sel (Nat.blt st.nM 16777216) (sel (Nat.blt n 16777216) (sel (Nat.blt (Nat.mul n size) 16777216) (fc (ad M st.nM c) λM=> .ok (Nat.add (Nat.add (Nat.add (Nat.add 7 (Nat.mul 16 st.nM)) (Nat.mul 268435456 (Nat.mul n size))) (Nat.mul 4503599627370496 n)) (Nat.mul 75557863725914323419136 size))
   (setM M (Nat.add (Nat.add st.nM (Nat.mul n size)) 1) st)) .no) .no) .no
def J6(size:Nat)(s x:Opd)(st:St):RS:=Option.rec .no (λq=>Src.rec (λn c=>sel (Nat.beq n 0) (sel (slB (rd st.T s)) (.ok (rd st.T s) st) .no)
   (sel (Nat.beq (Nat.mod (rd st.T s) 16) 7)
    (sel (Nat.beq (se (rd st.T s)) size) (sel (Nat.beq (gt st.M (ps (rd st.T s))) 0) .no (sel (Nat.beq (pz (rd st.T s)) 0) .no
     (oI (Nat.add (sl (rd st.T s)) n) size (up st.M (ps (rd st.T s)) (pz (rd st.T s)) 0)
      (ad (ch st.M (Nat.add (ps (rd st.T s)) (so (rd st.T s))) (Nat.mul (sl (rd st.T s)) size)) (Nat.mul (sl (rd st.T s)) size) c) st))) .no)
    (sel (Nat.beq (rd st.T s) 6) (oI n size st.M c st) (sel (Nat.beq (rd st.T s) 57) (oI n size st.M c st) .no)))) q) (Aa size (rd st.T x) st)
theorem EE{n size M c z:Nat}{st st':St}(e:oI n size M c st=.ok z st'):st.nM<16777216/\n<16777216/\n*size<16777216/\z=aX st.nM (n*size) n size 0/\st'={st with M:=ad M st.nM c,nM:=st.nM+n*size+1}:=by unfold oI at e;obtain⟨h1,e⟩:=ag e;obtain⟨h2,e⟩:=ag e;obtain⟨h3,e⟩:=ag e;rw[bX]at e;injection e with a b;have h1:=aY h1;have h2:=aY h2;have h3:=aY h3;simp only[nA,nM]at a b h3;exact⟨h1,h2,h3,a.symm,b.symm⟩
theorem Oq{z:Value}(h:∀v∈z.cells.toList,v.oneCell'=true)(n i:Nat)(hi:i<(Builtin.zeroCells z.cells n).size):((Builtin.zeroCells z.cells n).getD i undef).oneCell'=true:=by
 unfold Builtin.zeroCells at*;have a:i<n*z.cells.size:=by simpa using hi
 have c:0<z.cells.size:=by
  rcases Nat.eq_zero_or_pos z.cells.size with h|h;·rw[h,Nat.mul_zero]at a;omega
  ·exact h
 have b:i%z.cells.size<z.cells.size:=Nat.mod_lt _ c;rw[qqg,Array.getElem?_map,Array.getElem?_range,qzb a];simp only[jqb,qzm];rw[getElem!_pos z.cells _ b];exact h _ (by simp)
end
end Ev
namespace Ev
section
variable {P:Program}{K:Kon}{o:Oper}
theorem AO{t u:TypeId}{s x:Operand}(ho:o.op=.call {callee:=.builtin .append,args:=#[s,x],argTypes:=#[t,u]})(a:Act)(w:World){v:Value}{w':World}(h:(Builtin.append_ #[t,u] o.type #[a.eval s,a.eval x]).run P w=.ok v w'):(execOp a.eval o).run P w=.ok (.value v) w':=by simp[execOp,ho,resolve,invoke,builtin,h]
theorem wY{K:Kon}{l:List Value}(a:dZ K l=true):∀v∈l,v.oneCell'=true:=λv hv=>by have h:=qqw.1 a v hv;cases v<;>first|rfl|(exfalso;exact absurd h (by simp only[cV];decide))
theorem zI{g:Gh}{st:St}{w:World}(a:Nat)(p:HR g {st with M:=a} w){n size c cap z:Nat}{st':St}{el:TypeId}{cs rest:Array Value}(e:oI n size a c st=.ok z st')(he:size<256)(f:cs.size=n*size)(hc:c<2^(128*(n*size)))(hv:∀j,j<n*size->VR g (gt c j) (cs.getD j undef))(d:n<=cap)(q:rest.size=(cap-n)*size)(r:∀i,i<rest.size->(rest.getD i undef).oneCell'=true)(fr:Nat×Nat)(m:pK fr (cs++rest).size): ∃g',Post g st w g' st' (w.drew.alloc (.cells (cs++rest) el fr)) z (.slice (some ⟨w.heap.size,0,none⟩) n cap):=by
 obtain⟨h1,h2,h3,k,l⟩:=EE e;have hd:HR g {st with M:=a} w.drew:=HR.congr (w:=w) rfl p;have x:(cs++rest).size=cap*size:=by rw[jxv,f,q,<-jxa];congr 1;omega
 have h:∀j,(cs++rest).getD j undef=if j<n*size then cs.getD j undef else rest.getD (j-n*size) undef:=λj=>by rw[qqg,jzz,f];split<;>rw[<-qqg]
 have u:n*size<=cap*size:=jqk _ d;have v:(cap-n)*size=cap*size-n*size:=Nat.sub_mul _ _ _;obtain⟨s,t⟩:=hd.alloc (cs++rest) el fr (n:=n*size) (cw:=c) oqo hc (λj hj=>by rw[h,qzb hj];exact hv j hj)
  (λj hj=>by
   rw[h];by_cases b:j<n*size;·rw[qzb b];exact(hv j b).one
   ·rw[qzc b];exact r _ oqo) m;have hf:Fr g w (g.put st.nM (.cells w.heap.size 0 (n*size) (cs++rest).size)) (w.drew.alloc (.cells (cs++rest) el fr)):=Fr.trans (Fr.drew g w (w.drawn+1)) t;subst l;refine⟨_,s,hf,Ext.refl _ _,?_,rfl,rfl⟩;rw[k];exact .cell _ _ (.sli st.nM (n*size) n size 0 w.heap.size 0 (cs++rest).size cap ⟨w.heap.size,0,none⟩ h1 h3 h2 he (by show(g.put _ _).rho _=_;rw[Gh.bK,qzb rfl];rfl) oqo d (.inr ⟨rfl,by omega⟩))
theorem Em{t u el:TypeId}{d:TypeDesc}{s x:Operand}{q:TypeInfo}{z:Value}(ho:o.op=.call {callee:=.builtin .append,args:=#[s,x],argTypes:=#[t,u]})(ht:P.underlying t=some (.slice el))(hu:P.underlying u=some d)(hd:d=.string\/∃e',d=.slice e')(J:P.info? el=some q)(hz:q.zero=some z)(hs:z.cells.size=q.size)(hb:dZ K z.cells.toList=true)(h0:0<q.size)(he:q.size<256)(d0:q.bytes<=1048576):OpV P K o (J6 q.size (cOp K s) (cOp K x)):=λg st a w H st' hk m Y e=>by unfold J6 at e;have k:=Y s (by simp[ho,Op.operands,Call.operands]);have o0:=Y x (by simp[ho,Op.operands,Call.operands]);cases O:Aa q.size (rd st.T (cOp K x)) st with|none=>rw[O]at e;cases e|some qq=>
  obtain⟨n,c⟩:=qq;rw[O]at e;obtain⟨Q,s2,R,G,S,T,U⟩:=Nj (P:=P) m o0 O;have r0:=Oq (z:=z) (wY hb);dsimp only at e;have V:∀(B C:Nat)(ba:Option Addr)(L cap:Nat)(A:Array Value),HR g {st with M:=B} w->a.eval s=.slice ba L cap->L<16777216->cap<L+n->oI (L+n) q.size B C st=.ok H st'->A.size=L*q.size->(∀w':World,w'.heap=w.heap->(Builtin.firstCells q.size L (.slice ba L cap)).run P w'=.ok A w')->C<2^(128*((L+n)*q.size))->(∀j,j<(L+n)*q.size->VR g (gt C j) ((A++G).getD j undef))-> ∃g' w' v,((execOp a.eval o).run P w=.ok (.value v) w'\/((execOp a.eval o).run P w=.ok .skip w'/\v=undef))/\Post g st w g' st' w' H v/\(dB P o.op=true->w'=w\/(g'=g/\st'=st/\kX w w')):=by
   intro B C ba L cap A g1 g2 g3 g4 g5 g6 g7 g8 g9;have e0:Builtin.nextslicecap (L+n) cap*q.bytes<=281474976710656:=growslice_fits g4 (qzi (Nat.mul_le_mul (show L+n<=33554432 by omega) d0) (by decide));have hr:=FC (P:=P) ht hu hd J hz o.type (xv:=a.eval x) Q g4 oqo e0 g7 T;have i0:=grownCap_ge w (L+n) cap el;obtain⟨g',hp⟩:=zI (el:=el) (cs:=A++G) (rest:=Builtin.zeroCells z.cells (grownCap w (L+n) cap el-(L+n))) B g1 g5 he (by rw[jxv,g6,S,jxa]) g8 g9 i0
    (by rw[size_zeroCells,hs]) (λi hi=>r0 _ i hi) (0,0) (.inl rfl);exact⟨g',_,_,.inl (AO ho a w (by rw[g2];exact hr)),hp,λq=>absurd q (by simp[ho,dB])⟩
  cases hn:Nat.beq n 0 with
  |true=>
   rw[hn,ak]at e;obtain⟨h1,e⟩:=ag e;injection e with e1 e2;have hn:=ai hn;subst hn;have m0:G=#[]:=jxz (by rw[S,jzh]);subst m0;have f0:(Builtin.firstCells q.size 0 (a.eval x)).run P w=.ok #[] w:=T w rfl;have key:∀(b:Option Addr)(l c:Nat),a.eval s=.slice b l c->l<=c->(execOp a.eval o).run P w=.ok (.value (a.eval s)) w:=λb l c hv l0=>by refine AO ho a w ?_;rw[hv];exact uD (P:=P) ht hu hd J o.type (ba:=b) Q l0 f0 (λa _=>rfl) (λ_=>rfl)
   subst e2;rw[<-e1];refine⟨g,w,a.eval s,.inl ?_,.same m k,λq=>absurd q (by simp[ho,dB])⟩;unfold slB at h1;cases h2:Nat.beq (Nat.mod (rd st.T (cOp K s)) 16) 7 with|true=>obtain⟨blk,base,room,cap,ad,a1,f,a3,a4,a5,a6,E,F,a9,D⟩:=k.sli (ai h2);exact key _ _ _ f a9|false=>rw[h2,ah]at h1;cases h3:Nat.beq (rd st.T (cOp K s)) 6 with|true=>exact key _ _ _ (k.nil (ai h3)) (qqf _)|false=>rw[h3,ah]at h1;obtain⟨ad,f⟩:=k.emp (ai h1);exact key _ _ _ f (qqf _)
  |false=>rw[hn,ah]at e;have hn:=fH hn;cases h2:Nat.beq (Nat.mod (rd st.T (cOp K s)) 16) 7 with
   |true=>
    rw[h2,ak]at e;obtain⟨h3,e⟩:=ag e;obtain⟨r,e⟩:=nT e;obtain⟨I,e⟩:=nT e;have h3:=ai h3;have r:=fH r;have I:=fH I;simp only[nA,nM]at e;obtain⟨blk,base,room,cap,ad,a1,f,a3,a4,a5,a6,E,F,a9,D⟩:=k.sli (ai h2);rw[h3]at F D;obtain⟨cs,c1,c2,c3⟩:=qL (P:=P) m E F a9 D (qqf _);generalize so (rd st.T (cOp K s))=p at*;generalize sl (rd st.T (cOp K s))=L at*;generalize ps (rd st.T (cOp K s))=s0 at*;generalize pz (rd st.T (cOp K s))=z0 at*;have X:(L+n)*q.size=L*q.size+n*q.size:=jxa _ _ _;have x0:0<n*q.size:=Nat.mul_pos oqo h0;have W:=jD st.M (s0+p) (L*q.size);have hC:Ev.ad (ch st.M (s0+p) (L*q.size)) (L*q.size) c<2^(128*((L+n)*q.size)):=by rw[X];exact ic W R
    by_cases N:L+n<=cap;·obtain⟨rfl,y0⟩:=D.resolve_left oqo;have hm:(L+n)*q.size<=cap*q.size:=jqk _ N;have p0:0<z0:=Nat.pos_of_ne_zero I;obtain⟨w',r1,r2,r3⟩:=m.Uv P (o:=p) (l:=L*q.size) (n:=n*q.size) (cw:=c) E ⟨0,p0,by rw[qzz];exact r⟩ F oqo R G.toList (by rw[jqh,S]) (λi hi=>by have:=U i hi;rwa[qqm,qjf,<-qqg]);obtain⟨n1,n2,Z,n4,n5⟩:=EE e;have n0:=uD (P:=P) ht hu hd J o.type (ba:=some ⟨blk,base+p,none⟩) Q N (T w rfl) (λa' ha=>by injection ha with ha;subst ha;rw[kg,jqp];exact r1) (λh=>by cases h);rw[X]at Z n4 n5;rw[n5];refine⟨_,w',_,.inl (AO ho a w (by rw[f];exact n0)),⟨r2,r3,Ext.refl _ _,?_,rfl,rfl⟩,λq=>absurd q (by simp[ho,dB])⟩;rw[n4];exact .cell _ _ (.sli st.nM _ (L+n) q.size 0 blk (base+p) (room-p) cap _ n1 Z n2 he (by rw[Gh.bK,qzb rfl]) oqo N (.inr ⟨rfl,by omega⟩))
    ·have j0:=m.kill E;refine V _ _ (some ad) L cap cs j0 f a5 oqo e c1 (λw' hw=>c2 w' hw) hC (λj hj=>?_);rw[dM _ _ W,qqg,jzz,c1];by_cases y:j<L*q.size;·rw[qzb y,qzb y,<-qqg];exact c3 j y
     ·rw[qzc y,qzc y,<-qqg];exact U _ oqo|false=>
    rw[h2,ah]at e;have fin:∀b:Option Addr,a.eval s=.slice b 0 0->oI n q.size st.M c st=.ok H st'->∃g' w' v,((execOp a.eval o).run P w=.ok (.value v) w'\/((execOp a.eval o).run P w=.ok .skip w'/\v=undef))/\Post g st w g' st' w' H v/\(dB P o.op=true->w'=w\/(g'=g/\st'=st/\kX w w')):=λb hv e=>by
     refine V st.M c b 0 0 #[] m hv (by decide) oqo (by rw[qja];exact e) (by rw[jzh];rfl) (λw' _=>?_) (by rw[qja];exact R) (λj hj=>?_);·cases b with|none=>rfl|some ad=>rw[Builtin.firstCells,jzh];rfl
     ·rw[qja]at hj;rw[Array.empty_append];exact U j hj
    cases h3:Nat.beq (rd st.T (cOp K s)) 6 with|true=>rw[h3,ak]at e;exact fin _ (k.nil (ai h3)) e|false=>rw[h3,ah]at e;obtain⟨r,e⟩:=ag e;obtain⟨ad,f⟩:=k.emp (ai r);exact fin _ f e
end
end Ev
