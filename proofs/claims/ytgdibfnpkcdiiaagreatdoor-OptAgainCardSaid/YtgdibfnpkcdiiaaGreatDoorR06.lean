/- Joint text: EvE, EvF, EvG, EvH, EvI. By an AI agent. -/
import Derived.Test.YtgdibfnpkcdiiaaGreatDoorRzy
import Derived.Test.YtgdibfnpkcdiiaaGreatDoorR05
import Derived.Laws.Entries
import Derived.Laws.Strings
import Derived.Laws.BitsAllLaws
set_option linter.all false
set_option maxRecDepth 100000
set_option maxHeartbeats 64000000
noncomputable section
namespace Go.Proofs.YtgdibfnpkcdiiaaGreatDoor
namespace Ev
section
variable {g:Gh}{st:St}{w:World}
theorem Me(h:HR g st w){s blk base z room s' b ba z' r:Nat}(hr:g.rho s=.cells blk base z room)(a:g.rho s'=.cells b ba z' r)(hl:Live (up st.M s z 0) s' z'):s'≠s/\Live st.M s' z':=by
 have hz:(0:Nat)<2^(128*z):=Nat.pow_pos oqo;obtain⟨o,ho,c⟩:=hl;have e:s'≠s:=by rintro rfl;rw[hr]at a;injection a with _ _ j _;rw[lT _ _ _ hz,qzb oqo,vW]at c;exact c rfl
 refine⟨e,o,ho,?_⟩;rwa[lT _ _ _ hz,qzc]at c;rcases Nat.lt_or_gt_of_ne e with i|f;·have:=h.iV s' s i (by rw[a];simp) (by rw[hr];simp);rw[a]at this;have d:(Info.cells b ba z' r).size=z':=rfl;omega
 ·have:=h.iV s s' f (by rw[hr];simp) (by rw[a];simp);rw[hr]at this;have d:(Info.cells blk base z room).size=z:=rfl;omega
theorem HR.Uv(h:HR g st w)(P:Program){s blk base z room o l n cw:Nat}(hr:g.rho s=.cells blk base z room)(hl:Live st.M s z)(ho:o+l<=z)(hn':o+l+n<=room)(O:cw<2^(128*n))(vs:List Value)(hn:vs.length=n)(hv:∀i,i<n->VR g (gt cw i) (vs.getD i undef)): ∃w',(storeCells ⟨blk,base+(o+l),none⟩ vs).run P w=.ok () w'/\HR (g.put st.nM (.cells blk (base+o) (l+n) (room-o))) {st with M:=ad (up st.M s z 0) st.nM (ad (ch st.M (s+o) l) l cw),nM:=st.nM+(l+n)+1} w'/\Fr g w (g.put st.nM (.cells blk (base+o) (l+n) (room-o))) w':=by
 obtain⟨c,e,fr,hc⟩:=h.cells s blk base z room hr;have V:=hc.size;have U:=hc.room;have hlen:base+(o+l)+vs.length<=c.size:=oqo;have R:∀v∈vs,v.oneCell'=true:=λv hm=>by obtain⟨i,hi,e⟩:=Fq hm;have:=(hv i oqo).one;rwa[e]at this
 have F:=uu P blk (base+(o+l)) e fr vs 0 c w hc.heap (hc.thaw hl) oqo R;rw[qzz]at F;have q:=Ef c hlen;have k:=h.kill hr;have D:=jD st.M (s+o) l;have Q:=ic D O;have H:∀i,i<(spl c (base+(o+l)) vs).size->((spl c (base+(o+l)) vs).getD i undef).oneCell'=true:=λi hi=>by
  rw[pX c hlen];rw[q]at hi;by_cases E:base+(o+l)<=i/\i<base+(o+l)+vs.length;·rw[qzb E];exact(hv _ oqo).one
  ·rw[qzc E];exact hc.one i hi
 have G:∀s' ba z' r,g.rho s'=.cells blk ba z' r->¬Live (up st.M s z 0) s' z':=λs' ba z' r f C=>by obtain⟨ne,T⟩:=Me h hr f C;exact h.inj s s' blk base z room ba z' r (Ne.symm ne) hr f hl T
 refine⟨_,F,HR.grown k (i:=.cells blk (base+o) (l+n) (room-o)) (rW Q) (by simp) ?_ ?_ ?_ (λws hw=>by cases hw) (λb p=>by cases p),?_⟩
 ·intro s' I base' z' room' c2 u y S A;by_cases m:I=blk
  ·subst m;have J:c2=c/\u=e/\y=fr:=by have:=A.heap.symm.trans hc.heap;injection this with this;injection this with a b d;exact⟨a,b,d⟩
   obtain⟨rfl,rfl,rfl⟩:=J;exact⟨_,u,y,hc.qX _,q,H,λC=>absurd C (G s' base' z' room' S)⟩
  ·exact⟨c2,u,y,by rw[setRow_other _ _ _ _ m];exact A.heap,rfl,A.one,λ_=>⟨rfl,rfl⟩⟩
 ·intro s' b f;obtain⟨x,t,hm⟩:=h.maps s' b f;refine setRow_other _ _ _ _ (λm=>?_);subst m;rw[hc.heap]at t;injection t with t;subst t;obtain⟨_,_,_,_,_,_,_,_,_,_,_,N,_⟩:=hm;cases N
 ·intro b ba z' r hi;injection hi with h1 h2 h3 L;subst h1;subst h2;subst h3;subst L;refine⟨⟨_,e,fr,hc.qX _,by rw[q];omega,by omega,H,λj hj=>?_,λ_=>by rw[q];exact hc.thaw hl⟩,λs' ba z' r f=>G s' ba z' r f⟩;show VR _ (gt (ad (up st.M s z 0) st.nM _) (st.nM+j)) _;rw[dM _ _ k.Mlt,qzc (show¬st.nM+j<st.nM by omega),show st.nM+j-st.nM=j from Nat.add_sub_cancel_left ..,dM _ _ D,pX c hlen];refine VR.mono (Gh.lX _ (jL h (qqf _))) ?_;by_cases B:j<l;·rw[qzb B,jF,qzb B,qzc oqo];have:=hc.vr (o+j) oqo;rwa[<-jqp,<-jqp]at this
  ·rw[qzc B,qzb oqo,show base+o+j-(base+(o+l))=j-l by omega];exact hv _ oqo
 ·refine⟨rfl,rfl,rfl,by simp,Gh.lX _ (jL h (qqf _)),λb _ p=>setRow_other _ _ _ _ (λm=>p (by subst m;exact .inl ⟨s,base,z,room,hr⟩)),λb _ p=>?_⟩;rcases p with⟨s',ba,z',r,f⟩|⟨s',f⟩
  ·rw[Gh.bK]at f;split at f;·injection f with h1;subst h1;exact .inl ⟨s,base,z,room,hr⟩
   ·exact .inl ⟨s',ba,z',r,f⟩
  ·rw[Gh.bK]at f;split at f;·cases f
   ·exact .inr ⟨s',f⟩
end
def chS(S st l:Nat):Nat:=Nat.land (Nat.shiftRight S (Nat.mul 8 st)) (Nat.sub (Nat.pow 2 (Nat.mul 8 l)) 1)
def adS(S n x:Nat):Nat:=Nat.lor S (Nat.shiftLeft x (Nat.mul 8 n))
theorem rP(S i n j:Nat):(chS S i n).testBit j=(decide (j<8*n)&&S.testBit (8*i+j)):=by show((S>>>(8*i))&&&(2^(8*n)-1)).testBit j=_;rw[Nat.testBit_and,Nat.testBit_shiftRight,Nat.testBit_two_pow_sub_one,Bool.and_comm]
theorem NA(S i:Nat):aN S i=chS S i 1:=rfl
theorem lh(S i j:Nat):(aN S i).testBit j=(decide (j<8)&&S.testBit (8*i+j)):=by rw[NA,rP]
theorem Ib(S i c j:Nat):(adS S i c).testBit j=(S.testBit j||(decide (8*i<=j)&&c.testBit (j-8*i))):=by show(S|||(c<<<(8*i))).testBit j=_;rw[Nat.testBit_or,Nat.testBit_shiftLeft]
theorem mh(S i n:Nat):chS S i n<2^(8*n):=l8 λj hj=>by rw[rP,qqt oqo];rfl
theorem jm(S i:Nat):aN S i<256:=mh S i 1
theorem lV(S i n k:Nat):aN (chS S i n) k=if k<n then aN S (i+k)else 0:=by
 refine jzf λj=>?_;rw[lh,rP];split
 ·rw[lh];by_cases hj:j<8
  ·have:8*k+j<8*n:=by omega
   simp[hj,this,show 8*i+(8*k+j)=8*(i+k)+j from by omega]
  ·simp[hj]
 ·by_cases hj:j<8
  ·have:¬8*k+j<8*n:=by omega
   simp[this]
  ·simp[hj]
theorem jG{S i:Nat}(c k:Nat)(h:S<2^(8*i)):aN (adS S i c) k=if k<i then aN S k else aN c (k-i):=by
 refine jzf λj=>?_;by_cases hj:j<8
 ·rw[lh,Ib];split;·rw[lh];have a:¬8*i<=8*k+j:=oqo;simp[hj,a]
  ·rw[lh,jl h oqo];have a:8*i<=8*k+j:=oqo;have b:8*k+j-8*i=8*(k-i)+j:=oqo;simp[hj,a,b]
 ·split<;>simp[lh,hj]
theorem zn{S i c n:Nat}(a:S<2^(8*i))(h:c<2^(8*n)):adS S i c<2^(8*(i+n)):=by refine l8 λj hj=>?_;rw[Ib,jl a oqo,jl h oqo];simp
theorem Td{S c a b l:Nat}(h:∀i,i<l->aN S (a+i)=aN c (b+i)):chS S a l=chS c b l:=by
 refine jzf λj=>?_;rw[rP,rP];by_cases hj:j<8*l;·have h1:=jqi (λx=>x.testBit (j%8)) (h (j/8) oqo);simp only[lh]at h1;have d:8*(a+j/8)+j%8=8*a+j:=oqo;have e:8*(b+j/8)+j%8=8*b+j:=oqo;have f:j%8<8:=oqo;simp only[d,e,f,decide_true,jzs]at h1;rw[h1]
 ·simp[hj]
theorem fJ(S st l:Nat):(strOf S st l).size=l:=by simp[strOf,ByteArray.size]
theorem bM(S st l:Nat):(strOf S st l).data.toList=(List.range l).map λi=>UInt8.ofNat (aN S (st+i)):=by simp[strOf]
theorem yu{a b:Nat}(ha:a<256)(c:b<256)(h:UInt8.ofNat a=UInt8.ofNat b):a=b:=by have:=jqi UInt8.toNat h;simp only[UInt8.toNat_ofNat']at this;omega
theorem LY{S c a b l:Nat}(h:∀i,i<l->aN S (a+i)=aN c (b+i)):strOf S a l=strOf c b l:=by unfold strOf;congr 2;exact jqg λi hi=>by rw[h i (qzg.1 hi)]
theorem Dk{S a b l:Nat}:strOf S a l=strOf S b l↔chS S a l=chS S b l:=by
 constructor;·intro h;refine Td λi hi=>?_;have h1:=jqi (λx=>x.data.toList[i]?) h;simp only[bM,qqp,qqz hi,jqb,qzk]at h1;exact yu (jm _ _) (jm _ _) h1
 ·intro h;refine LY λi hi=>?_;have h1:=jqi (λx=>aN x i) h;simpa only[lV,qzb hi]using h1
theorem uk(S st l a b:Nat)(h:b<=l):(strOf S st l).extract a b=strOf S (st+a) (b-a):=by
 apply jje;apply jxj;rw[ByteArray.data_extract,Array.toList_extract,bM,bM];apply jqq;intro i;simp only[List.extract_eq_take_drop,qzw,jzq,qqp];by_cases hi:i<b-a;·rw[qzb hi,qqz oqo,qqz hi,jqb,jqb,jqp]
 ·rw[qzc hi,qza (by simp;omega),Option.map_none]
theorem DC{S a l b m:Nat}(c n:Nat)(h1:∀i,i<l->aN c (n+i)=aN S (a+i))(h2:∀i,i<m->aN c (n+l+i)=aN S (b+i)):strOf S a l++strOf S b m=strOf c n (l+m):=by
 apply jje;apply jxj;rw[ByteArray.data_append,Array.toList_append,bM,bM,bM];apply jqq;intro i;by_cases hi:i<l;·rw[qzf (by simpa using hi),qqp,qqp,qqz hi,qqz oqo,jqb,jqb,h1 i hi]
 ·rw[qze (by simpa using Nat.le_of_not_lt hi),qqv,List.length_range,qqp,qqp];by_cases d:i<l+m;·have:=h2 (i-l) oqo;rw[show n+l+(i-l)=n+i by omega]at this;rw[qqz oqo,qqz d,jqb,jqb,this]
  ·rw[qza (by simp;omega),qza (by simp;omega)];rfl
theorem HR.pool{g:Gh}{st:St}{w:World}(h:HR g st w)(l x:Nat)(a:x<2^(8*l)):HR {g with S:=adS st.S st.nS x,nS:=st.nS+l} {st with S:=adS st.S st.nS x,nS:=st.nS+l} w/\Fr g w {g with S:=adS st.S st.nS x,nS:=st.nS+l} w:=by
 have hle:g.le {g with S:=adS st.S st.nS x,nS:=st.nS+l}:=Gh.le.mk (rh:=rfl) (λ_ _=>rfl) (by show g.nS<=_;have:=h.nS;dsimp only;omega) λi hi=>by show aN (adS st.S st.nS x) i=_;rw[jG _ _ h.Slt,qzb (by rw[h.nS];exact hi),h.S]
 refine⟨⟨rfl,rfl,zn h.Slt a,h.Mlt,h.Rlt,h.top,h.iV,λs blk base z room hs=>?_,h.rows,λs blk hs=>?_,h.inj,h.l6⟩,⟨rfl,rfl,rfl,qqf _,hle,λ_ _ _=>rfl,λ_ _ h=>h⟩⟩;·obtain⟨c,e,fr,hc⟩:=h.cells s blk base z room hs;exact⟨c,e,fr,hc.heap,hc.size,hc.room,hc.one,λo ho=>(hc.vr o ho).mono hle,hc.thaw⟩
 ·obtain⟨o,ho,hm⟩:=h.maps s blk hs;exact⟨o,ho,hm.mono hle⟩
end Ev
namespace Ev
inductive RS where|no|ok(w:Nat)(st:St)
def sel{α:Type}(b:Bool)(x y:α):α:=Bool.rec y x b
theorem ag{b:Bool}{x:RS}{w:Nat}{st:St}(h:sel b x .no=.ok w st):b=true/\x=.ok w st:=by cases b with|true=>exact⟨rfl,h⟩|false=>cases h
theorem ai{a b:Nat}(h:Nat.beq a b=true):a=b:=Nat.eq_of_beq_eq_true h
theorem dY{a b:Nat}(h:Nat.ble a b=true):a<=b:=Nat.le_of_ble_eq_true h
theorem aY{a b:Nat}(h:Nat.blt a b=true):a<b:=Nat.le_of_ble_eq_true h
theorem nA(a b:Nat):Nat.add a b=a+b:=rfl
theorem nS(a b:Nat):Nat.sub a b=a-b:=rfl
theorem nM(a b:Nat):Nat.mul a b=a*b:=rfl
theorem nD(a b:Nat):Nat.div a b=a/b:=rfl
theorem nR(a b:Nat):Nat.mod a b=a%b:=rfl
theorem ak{α:Type}(x y:α):sel true x y=x:=rfl
theorem ah{α:Type}(x y:α):sel false x y=y:=rfl
structure Kon where
 S:Nat
 n:Nat
 at_:List Nat
 rh:Nat->Value:=λ_=>undef
def Kon.gh(K:Kon):Gh:=⟨λ_=>.free,K.S,K.n,K.rh⟩
structure Kon.In(K:Kon)(g:Gh):Prop where
 n:K.n<=g.nS
 byte:∀i,i<K.n->aN g.S i=aN K.S i
theorem Kon.In.le{K:Kon}{g g':Gh}(h:K.In g)(k:g.le g'):K.In g':=⟨qzi h.n k.nS,λi hi=>(k.byte i (qzj hi h.n)).trans (h.byte i hi)⟩
inductive Opd where|s(t:Nat)|c(w:Nat)
def rd(T:Nat)(x:Opd):Nat:=Opd.rec (λi=>gt T i) (λw=>w) x
def iA(l:List UInt8):Nat:=l.foldr (λb n=>b.toNat+256*n) 0
def cV(K:Kon):Value->Nat
 | .bool b=>nC b| .int k n=>if-9223372036854775808<=n/\n<18446744073709551616 then aC k n else 0| .string s=>match K.at_.find? λst=>Nat.beq (chS K.S st s.size) (iA s.data.toList)&&Nat.ble (st+s.size) K.n&&Nat.blt s.size 16777216&&Nat.blt st 4294967296 with|some st=>dC st s.size|none=>0
 | .pointer none=>4| .slice none 0 0=>6| .map none=>9| .nilFunc=>25| .nilIface=>41|_=>0
def cOp(K:Kon):Operand->Opd| .tmp t=>.s t| .const v=>.c (cV K v)| .func f=>.c (if f<65536 then gI f else 0)| .global _=>.c 0
theorem Aq(S i:Nat):aN S i=S/2^(8*i)%256:=by show(S>>>(8*i))&&&(2^8-1)=_;rw[Nat.and_two_pow_sub_one_eq_mod,Nat.shiftRight_eq_div_pow]
theorem lU:∀(l:List UInt8)(i:Nat)(h:i<l.length),aN (iA l) i=l[i].toNat|b::l,0,_=>by have:=b.toNat_lt;rw[Aq];change(b.toNat+256*iA l)/2^0%256=b.toNat;rw[Nat.pow_zero,Nat.div_one,Nat.add_mul_mod_self_left];exact qje this|b::l,i+1,h=>by have ih:=lU l i (by simpa using h);have:=b.toNat_lt;rw[Aq]at ih⊢;rw[List.getElem_cons_succ,<-ih,iA,List.foldr_cons,show 8*(i+1)=8+8*i by omega,Nat.pow_add,<-Nat.div_div_eq_div_mul];congr 2;change(b.toNat+256*iA l)/256=_;rw[Nat.add_mul_div_left _ _ (by decide),Nat.div_eq_of_lt this,qja]
theorem Gu{K:Kon}{g:Gh}(h:K.In g){st:Nat}{s:ByteArray}(e:chS K.S st s.size=iA s.data.toList)(a:st+s.size<=K.n):strOf g.S st s.size=s:=by
 apply jje;apply jxj;rw[bM];apply List.ext_getElem;·rw[qqv,List.length_range];rfl
 ·intro i h1 h2;have hi:i<s.size:=by simpa using h1
  simp only[jja,List.getElem_range];have:=jqi (λx=>aN x i) e;simp only[lV,qzb hi]at this;rw[lU _ _ h2]at this;rw[h.byte _ oqo,this];simp
theorem CZ{K:Kon}{g:Gh}(h:K.In g)(R nR:Nat)(v:Value):TR g R nR (cV K v) v:=by
 unfold cV;split;·exact .cell _ _ (.bool _)
 ·split;·rename_i h2;exact .cell _ _ (.int _ _ h2.1 h2.2)
  ·exact .unk _
 ·rename_i s;split;·rename_i st hf;have h1:=List.find?_some hf;simp only[qqn]at h1;obtain⟨⟨⟨h1,h2⟩,h3⟩,a⟩:=h1;have h1:=ai h1;have h2:=dY h2;have h3:=aY h3;have a:=aY a;have e:=Gu h h1 h2;have:=VR.str (g:=g) st s.size h3 (qzi h2 h.n) a;rw[e]at this;exact .cell _ _ this
  ·exact .unk _
 ·exact .cell _ _ .pnil
 ·exact .cell _ _ .snil
 ·exact .cell _ _ .mnil
 ·exact .cell _ _ .fnil
 ·exact .cell _ _ .inil
 ·exact .unk _
theorem FE{K:Kon}{g:Gh}(h:K.In g){T R nR:Nat}{a:Act}{x:Operand}(ht:∀t,x=.tmp t->TR g R nR (gt T t) (a.eval x)):TR g R nR (rd T (cOp K x)) (a.eval x):=by
 cases x with|tmp t=>exact ht t rfl|const v=>exact CZ h R nR v|func f=>
  show TR g R nR (if f<65536 then gI f else 0) (.func (.func f) #[] #[]);split;·rename_i hf;exact .cell _ _ (.fn0 f hf)
  ·exact .unk _|global i=>exact .unk _
structure Post(g:Gh)(st:St)(w:World)(g':Gh)(st':St)(w':World)(x:Nat)(v:Value):Prop where
 hr:HR g' st' w'
 fr:Fr g w g' w'
 ext:Ext st.R st.nR st'.R st'.nR
 tr:TR g' st'.R st'.nR x v
 T:st'.T=st.T
 D:st'.D=st.D
def kX(w w':World):Prop:=∀g st,HR g st w->HR g st w'/\Fr g w g w'
theorem kX.refl(w:World):kX w w:=λg _ h=>⟨h,Fr.refl g w⟩
theorem kX.push(w:World)(o:Obj):kX w (w.alloc o):=λ_ _ h=>h.push o
def dB(P:Program):Op->Bool
 | .move _| .assign _| .pick _ _ _| .load _ _| .nilCheck _| .binOp _ _ _ _ _| .unOp _ _ _| .makeInterface _ _| .makeFunc _ _ _| .lookup _ _ _ _| .slice _ _ _ _ _=>true| .fieldAddr _ _ _| .field _ _ _| .indexAddr _ _ _| .index _ _ _| .extract _ _| .build _ _=>true| .buildSlice _ len _=>Nat.beq len 0| .convert _ d _=>match P.underlying d with|some (.slice _)=>false|_=>true
 | .call {callee:=.builtin .len,.. }| .call {callee:=.builtin .max,.. }| .call {callee:=.builtin .min,.. }=>true|_=>false
def OpV(P:Program)(K:Kon)(o:Oper)(f:St->RS):Prop:= ∀(g:Gh)(st:St)(a:Act)(w:World)(x:Nat)(st':St),K.In g->HR g st w->(∀y∈o.op.operands,TR g st.R st.nR (rd st.T (cOp K y)) (a.eval y))->f st=.ok x st'-> ∃g' w' v,((execOp a.eval o).run P w=.ok (.value v) w'\/((execOp a.eval o).run P w=.ok .skip w'/\v=undef))/\Post g st w g' st' w' x v/\(dB P o.op=true->w'=w\/(g'=g/\st'=st/\kX w w'))
theorem Post.same{g:Gh}{st:St}{w:World}(h:HR g st w){x:Nat}{v:Value}(t:TR g st.R st.nR x v):Post g st w g st w x v:=⟨h,Fr.refl g w,Ext.refl _ _,t,rfl,rfl⟩
theorem OpV.pure{P:Program}{K:Kon}{o:Oper}{f:St->RS}(hf:∀(g:Gh)(st:St)(a:Act)(w:World)(x:Nat)(st':St),K.In g->HR g st w->(∀y∈o.op.operands,TR g st.R st.nR (rd st.T (cOp K y)) (a.eval y))->f st=.ok x st'->st'=st/\∃v,(execOp a.eval o).run P w=.ok (.value v) w/\TR g st.R st.nR x v):OpV P K o f:=λg st a w x st' hk h b e=>by obtain⟨rfl,v,hr,ht⟩:=hf g st a w x st' hk h b e;exact⟨g,w,v,.inl hr,.same h ht,λ_=>.inl rfl⟩
section
variable {P:Program}{K:Kon}{o:Oper}
def rC(x:Opd)(st:St):RS:=.ok (rd st.T x) st
theorem Ci{x:Operand}(ho:o.op=.move x\/o.op=.assign x):OpV P K o (rC (cOp K x)):=.pure λg st a w y st' hk h d e=>by
 unfold rC at e;injection e with b c;subst b;subst c;refine⟨rfl,a.eval x,?_,d x ?_⟩;·rcases ho with ho|ho<;>simp only[execOp,ho]<;>rfl
 ·rcases ho with ho|ho<;>simp[ho,Op.operands]
def Eu(c x y:Opd)(st:St):RS:=sel (Nat.beq (rd st.T c) 17) (.ok (rd st.T x) st) (sel (Nat.beq (rd st.T c) 1) (.ok (rd st.T y) st) .no)
theorem NI{c x y:Operand}(ho:o.op=.pick c x y):OpV P K o (Eu (cOp K c) (cOp K x) (cOp K y)):=.pure λg st a w z st' hk h i e=>by unfold Eu at e;have hc:=i c (by simp[ho,Op.operands]);cases h1:Nat.beq (rd st.T (cOp K c)) 17 with
 |true=>
  rw[h1,ak]at e;injection e with d f;subst d;subst f;have h1:=ai h1;refine⟨rfl,a.eval x,?_,i x (by simp[ho,Op.operands])⟩;obtain⟨b,d,f⟩:=(hc.aP oqo oqo oqo oqo).gL oqo;have:b=true:=by cases b with|true=>rfl|false=>rw[h1]at d;exact absurd d (by decide)
  subst this;simp only[execOp,ho,f];rfl|false=>
  rw[h1,ah]at e;obtain⟨h2,e⟩:=ag e;injection e with d f;subst d;subst f;have h2:=ai h2;refine⟨rfl,a.eval y,?_,i y (by simp[ho,Op.operands])⟩;obtain⟨b,d,f⟩:=(hc.aP oqo oqo oqo oqo).gL oqo;have:b=false:=by cases b with|false=>rfl|true=>rw[h2]at d;exact absurd d (by decide)
  subst this;simp only[execOp,ho,f];rfl
end
end Ev
namespace Ev
def dI(w:Nat):Int:=Int.sub (Int.ofNat (Nat.div w 256)) 9223372036854775808
def eI(k:IntKind)(n:Int):Nat:=sel (decide (-9223372036854775808<=n)&&decide (n<18446744073709551616)) (aC k n) 0
theorem o8(k:IntKind)(n:Int)(h: -9223372036854775808<=n):dI (aC k n)=n:=by have:=iY k;show((aC k n/256:Nat):Int)-9223372036854775808=n;unfold aC;omega
theorem tL(k:IntKind)(n:Int):aC k n%256=2+16*kc k:=by have:=iY k;unfold aC;omega
theorem JE(g:Gh)(k:IntKind)(n:Int)(h:eI k n≠0):VR g (eI k n) (.int k n):=by unfold eI at*;cases a:(decide (-9223372036854775808<=n)&&decide (n<18446744073709551616))with|false=>rw[a]at h;exact absurd rfl h|true=>simp only[qqn,qqu]at a;exact .int k n a.1 a.2
theorem TR.int{g:Gh}{R nR w:Nat}{v:Value}{k:IntKind}(h:TR g R nR w v)(hm:w%256=2+16*kc k):∃n,w=aC k n/\v=.int k n/\-9223372036854775808<=n/\n<18446744073709551616:=by have:=iY k;obtain⟨b,n,a,c,h1,h2⟩:=(h.aP oqo oqo oqo oqo).jf oqo;have e:=tL b n;rw[<-a,hm]at e;have:b=k:=uT oqo;subst this;exact⟨n,a,c,h1,h2⟩
theorem TR.int'{g:Gh}{R nR w:Nat}{v:Value}(h:TR g R nR w v)(hm:w%16=2):∃k n,w=aC k n/\v=.int k n/\-9223372036854775808<=n/\n<18446744073709551616:=(h.aP oqo oqo oqo oqo).jf hm
section
variable {P:Program}{K:Kon}{o:Oper}
def FO:BinOp->Int->Int->Option Bool| .eql,a,b=>some (a==b)| .neq,a,b=>some (a !=b)| .lss,a,b=>some (decide (a<b))| .leq,a,b=>some (decide (a<=b))| .gtr,a,b=>some (decide (a>b))| .geq,a,b=>some (decide (a≥b))|_,_,_=>none
def N9:BinOp->Nat->Nat->Nat| .eql,a,b=>sel (Nat.beq a b) 17 1| .neq,a,b=>sel (Nat.beq a b) 1 17| .lss,a,b=>sel (Nat.blt a b) 17 1| .leq,a,b=>sel (Nat.ble a b) 17 1| .gtr,a,b=>sel (Nat.blt b a) 17 1| .geq,a,b=>sel (Nat.ble b a) 17 1|_,_,_=>0
theorem Ps(b:Bool):nC b=sel b 17 1:=rfl
theorem Sn(op:BinOp)(k:IntKind)(a b:Int)(ha: -9223372036854775808<=a)(c: -9223372036854775808<=b){r:Bool}(h:FO op a b=some r):N9 op (aC k a) (aC k b)=nC r:=by
 have hk:=iY k;have i:Nat.beq (aC k a) (aC k b)=(a==b):=by cases d:(a==b)with|true=>rw[eq_of_beq d];exact Nat.beq_refl _|false=>refine Bool.eq_false_iff.2 λhc=>?_;have:=ai hc;unfold aC at this;exact absurd (show a=b by omega) (by simpa using d)
 have e:∀a b:Int,-9223372036854775808<=a->-9223372036854775808<=b->Nat.ble (aC k a) (aC k b)=decide (a<=b):=λa b ha c=>by rw[qzd];simp only[Nat.ble_eq,qqu];unfold aC;omega
 have f:∀a b:Int,-9223372036854775808<=a->-9223372036854775808<=b->Nat.blt (aC k a) (aC k b)=decide (a<b):=λa b ha c=>by rw[qzd];simp only[Nat.blt_eq,qqu];unfold aC;omega
 cases op<;>simp only[FO,qzk,reduceCtorEq]at h<;>subst h<;>simp only[N9,i,e _ _ ha c,e _ _ c ha,f _ _ ha c,f _ _ c ha,Ps,gt_iff_lt,ge_iff_le];cases d:(a==b)<;>simp[sel,bne,d]
theorem Uk(t _u:TypeId)(_x _y:Operand)(op:BinOp)(k:IntKind)(a b:Int)(w:World){r:Bool}(h:FO op a b=some r):(binOp op t (.int k a) (.int k b)).run P w=.ok (.bool r) w:=by cases op<;>simp only[FO,qzk,reduceCtorEq]at h<;>subst h<;>simp[binOp,Op.intCmp]
def Kc(op:BinOp)(c:Nat)(x y:Opd)(st:St):RS:=sel (Nat.beq (Nat.mod (rd st.T x) 256) c) (sel (Nat.beq (Nat.mod (rd st.T y) 256) c) (.ok (N9 op (rd st.T x) (rd st.T y)) st) .no) .no
def Rb:BinOp->Bool| .eql| .neq| .lss| .leq| .gtr| .geq=>true|_=>false
theorem Qc{op:BinOp}{t u:TypeId}{x y:Operand}{k:IntKind}(ho:o.op=.binOp op t x y u)(hc:Rb op=true):OpV P K o (Kc op (2+16*kc k) (cOp K x) (cOp K y)):=.pure λg st a w z st' _ _ c e=>by
 unfold Kc at e;obtain⟨h1,e⟩:=ag e;obtain⟨h2,e⟩:=ag e;injection e with b i;obtain⟨n,d,f,a3,_⟩:=(c x (by simp[ho,Op.operands])).int (ai h1);obtain⟨m,b1,b2,h,_⟩:=(c y (by simp[ho,Op.operands])).int (ai h2);obtain⟨r,hr⟩:∃r,FO op n m=some r:=by cases op<;>first|exact⟨_,rfl⟩|cases hc
 rw[d,b1,Sn op k n m a3 h hr]at b;refine⟨i.symm,.bool r,?_,by rw[<-b];exact .cell _ _ (.bool r)⟩;simp only[execOp,ho,f,b2,qjm,eqGuard_at_int];simp[Uk t u x y op k n m w hr]
def zD(op:BinOp)(k:IntKind)(n m:Int):Option Int:=match op with| .add=>some (k.wrap (n+m))| .sub=>some (k.wrap (n-m))| .mul=>some (k.wrap (n*m))| .quo=>if m=0 then none else some (k.wrap (n.tdiv m))| .rem=>if m=0 then none else some (n.tmod m)| .and=>some (k.wrap (BitVec.ofInt k.bits n&&&BitVec.ofInt k.bits m).toNat)| .or=>some (k.wrap (BitVec.ofInt k.bits n|||BitVec.ofInt k.bits m).toNat)| .xor=>some (k.wrap (BitVec.ofInt k.bits n^^^BitVec.ofInt k.bits m).toNat)| .andNot=>some (k.wrap (BitVec.ofInt k.bits n&&& ~~~BitVec.ofInt k.bits m).toNat)| .shl=>if m<0 then none else some (k.wrap (n*2^min m.toNat k.bits))| .shr=>if m<0 then none else some (n.fdiv (2^min m.toNat k.bits))|_=>none
def wH:BinOp->Bool| .shl| .shr=>true|_=>false
theorem J5(t:TypeId)(op:BinOp)(k j:IntKind)(n m:Int)(w:World){r:Int}(h:zD op k n m=some r)(hj:wH op=true\/j=k):(binOp op t (.int k n) (.int j m)).run P w=.ok (.int k r) w:=by cases op<;>simp only[zD,reduceCtorEq,qzk]at h<;>first|(have hj:=hj.resolve_left (by decide);subst hj;subst h;simp[binOp,Op.intArith,Op.intBits];done)|(have hj:=hj.resolve_left (by decide);subst hj;split at h<;>first|(cases h;done)|(rename_i h0;injection h with h;subst h;simp[binOp,Op.intDiv,h0];done))|(split at h<;>first|(cases h;done)|(rename_i h0;injection h with h;subst h;simp[binOp,Op.shift,h0];done))
def IA(op:BinOp)(k:IntKind)(c:Nat)(x y:Opd)(st:St):RS:=sel (Nat.beq (Nat.mod (rd st.T x) 256) c) (sel (sel (wH op) (Nat.beq (Nat.mod (rd st.T y) 16) 2) (Nat.beq (Nat.mod (rd st.T y) 256) c))
  (Option.rec .no (λr=>fc (eI k r) λz=>sel (Nat.beq z 0) .no (.ok z st)) (zD op k (dI (rd st.T x)) (dI (rd st.T y)))) .no) .no
theorem O6{op:BinOp}{t u:TypeId}{x y:Operand}{k:IntKind}(ho:o.op=.binOp op t x y u):OpV P K o (IA op k (2+16*kc k) (cOp K x) (cOp K y)):=.pure λg st a w z st' _ _ c e=>by
 unfold IA at e;obtain⟨h1,e⟩:=ag e;obtain⟨h2,e⟩:=ag e;obtain⟨n,d,f,a3,_⟩:=(c x (by simp[ho,Op.operands])).int (ai h1);have l:∃j m,rd st.T (cOp K y)=aC j m/\a.eval y=.int j m/\-9223372036854775808<=m/\(wH op=true\/j=k):=by cases hs:wH op with|true=>rw[hs,ak]at h2;obtain⟨j,m,b1,b2,b,_⟩:=(c y (by simp[ho,Op.operands])).int' (ai h2);exact⟨j,m,b1,b2,b,.inl rfl⟩|false=>rw[hs,ah]at h2;obtain⟨m,b1,b2,b,_⟩:=(c y (by simp[ho,Op.operands])).int (ai h2);exact⟨k,m,b1,b2,b,.inr rfl⟩
 obtain⟨j,m,b1,b2,b,hj⟩:=l;rw[d,b1,o8 k n a3,o8 j m b]at e;cases hr:zD op k n m with|none=>rw[hr]at e;cases e|some r=>rw[hr]at e;simp only[bX]at e;cases h0:Nat.beq (eI k r) 0 with|true=>rw[h0,ak]at e;cases e|false=>
   rw[h0,ah]at e;injection e with h i;have p:eI k r≠0:=λhc=>by rw[hc]at h0;exact absurd h0 (by decide)
   refine⟨i.symm,.int k r,?_,by rw[<-h];exact .cell _ _ (JE g k r p)⟩;simp only[execOp,ho,f,b2,qjm,eqGuard_at_int];simp[J5 t op k j n m w hr hj]
theorem Hr{k:IntKind}{n:Int}(h1:k.min<=n)(h2:n<=k.max):k.wrap n=n:=by cases k<;>simp[IntKind.wrap,IntKind.min,IntKind.max,IntKind.bits,IntKind.signed]at* <;>omega
theorem Nn(k:IntKind): -9223372036854775808<=k.min:=by cases k<;>decide
theorem max_lt(k:IntKind):k.max<18446744073709551616:=by cases k<;>decide
def Jd(c off a hi:Nat)(x y:Opd)(st:St):RS:=sel (Nat.beq (Nat.mod (rd st.T x) 256) c) (sel (Nat.beq (Nat.mod (rd st.T y) 256) c)
  (fc (Nat.sub (Nat.add (rd st.T x) (rd st.T y)) off) λz=>sel (Nat.ble a z) (sel (Nat.ble z hi) (.ok z st) .no) .no) .no) .no
def IP(c off a hi:Nat)(x y:Opd)(st:St):RS:=sel (Nat.beq (Nat.mod (rd st.T x) 256) c) (sel (Nat.beq (Nat.mod (rd st.T y) 256) c)
  (fc (Nat.sub (Nat.add (rd st.T x) off) (rd st.T y)) λz=>sel (Nat.ble a z) (sel (Nat.ble z hi) (.ok z st) .no) .no) .no) .no
theorem Pp{t u:TypeId}{x y:Operand}{k:IntKind}(ho:o.op=.binOp .add t x y u):OpV P K o (Jd (2+16*kc k) (aC k 0) (aC k k.min) (aC k k.max) (cOp K x) (cOp K y)):=.pure λg st a w z st' _ _ d e=>by
 unfold Jd at e;obtain⟨h1,e⟩:=ag e;obtain⟨h2,e⟩:=ag e;rw[bX]at e;obtain⟨h3,e⟩:=ag e;obtain⟨b,e⟩:=ag e;injection e with c i;have h3:=dY h3;have b:=dY b;obtain⟨n,f,h,a3,_⟩:=(d x (by simp[ho,Op.operands])).int (ai h1);obtain⟨m,b1,b2,p,_⟩:=(d y (by simp[ho,Op.operands])).int (ai h2);rw[f,b1]at c h3 b;have hk:=iY k;have s:=Nn k;have v:=max_lt k;have r: -9223372036854775808<=n+m:=by change aC k k.min<=aC k n+aC k m-aC k 0 at h3;unfold aC at h3;omega
 have hz:Nat.sub (Nat.add (aC k n) (aC k m)) (aC k 0)=aC k (n+m):=by
  show aC k n+aC k m-aC k 0=_;change aC k k.min<=aC k n+aC k m-aC k 0 at h3;have q:k.min<=k.max:=by cases k<;>decide
  unfold aC at*;omega
 rw[hz]at c h3 b;have j:k.min<=n+m:=by
  unfold aC at h3;have:k.min<=0:=by(cases k<;>decide)
  omega
 have l:n+m<=k.max:=by
  unfold aC at b;have:0<=k.max:=by(cases k<;>decide)
  omega
 refine⟨i.symm,.int k (n+m),?_,by rw[<-c];exact .cell _ _ (.int k _ oqo oqo)⟩;simp only[execOp,ho,h,b2,qjm,eqGuard_at_int];simp[binOp,Op.intArith,Hr j l]
theorem QV{t u:TypeId}{x y:Operand}{k:IntKind}(ho:o.op=.binOp .sub t x y u):OpV P K o (IP (2+16*kc k) (aC k 0) (aC k k.min) (aC k k.max) (cOp K x) (cOp K y)):=.pure λg st a w z st' _ _ d e=>by
 unfold IP at e;obtain⟨h1,e⟩:=ag e;obtain⟨h2,e⟩:=ag e;rw[bX]at e;obtain⟨h3,e⟩:=ag e;obtain⟨b,e⟩:=ag e;injection e with c i;have h3:=dY h3;have b:=dY b;obtain⟨n,f,h,a3,_⟩:=(d x (by simp[ho,Op.operands])).int (ai h1);obtain⟨m,b1,b2,p,_⟩:=(d y (by simp[ho,Op.operands])).int (ai h2);rw[f,b1]at c h3 b;have hk:=iY k;have r:=Nn k;have s:=max_lt k;have q: -9223372036854775808<=n-m:=by change aC k k.min<=aC k n+aC k 0-aC k m at h3;unfold aC at h3;omega
 have hz:Nat.sub (Nat.add (aC k n) (aC k 0)) (aC k m)=aC k (n-m):=by show aC k n+aC k 0-aC k m=_;change aC k k.min<=aC k n+aC k 0-aC k m at h3;unfold aC at*;omega
 rw[hz]at c h3 b;have j:k.min<=n-m:=by
  unfold aC at h3;have:k.min<=0:=by(cases k<;>decide)
  omega
 have l:n-m<=k.max:=by
  unfold aC at b;have:0<=k.max:=by(cases k<;>decide)
  omega
 refine⟨i.symm,.int k (n-m),?_,by rw[<-c];exact .cell _ _ (.int k _ oqo oqo)⟩;simp only[execOp,ho,h,b2,qjm,eqGuard_at_int];simp[binOp,Op.intArith,Hr j l]
end
end Ev
namespace Ev
section
variable {P:Program}{K:Kon}{o:Oper}
theorem dF{t:TypeId}{i:TypeInfo}(h:P.info? t=some i)(w:World):(sizeOf t).run P w=.ok i.size w:=by simp[sizeOf,typeInfo,h]
theorem jJ{t:TypeId}{i:TypeInfo}(h:P.info? t=some i)(w:World):(typeInfo t).run P w=.ok i w:=by simp[typeInfo,h]
def fU:TypeDesc->Bool| .struct _| .array _ _=>true|_=>false
theorem pQ{t:TypeId}{d:TypeDesc}(h:P.underlying t=some d)(w:World):(isAgg t).run P w=.ok (fU d) w:=by cases d<;>simp[isAgg,jqa h,fU]
theorem kg(b o k:Nat):(⟨b,o,none⟩:Addr).add k=⟨b,o+k,none⟩:=by unfold Addr.add;split<;>simp_all
def JV(x:Opd)(st:St):RS:=sel (Nat.beq (rd st.T x) 17) (.ok 1 st) (sel (Nat.beq (rd st.T x) 1) (.ok 17 st) .no)
theorem TR.Vi{g:Gh}{R nR w:Nat}{v:Value}(h:TR g R nR w v)(e:w=17):v=.bool true:=by obtain⟨b,a,c⟩:=(h.aP oqo oqo oqo oqo).gL oqo;cases b with|true=>exact c|false=>rw[e]at a;exact absurd a (by decide)
theorem TR.Ws{g:Gh}{R nR w:Nat}{v:Value}(h:TR g R nR w v)(e:w=1):v=.bool false:=by obtain⟨b,a,c⟩:=(h.aP oqo oqo oqo oqo).gL oqo;cases b with|false=>exact c|true=>rw[e]at a;exact absurd a (by decide)
theorem Qi{t:TypeId}{x:Operand}(ho:o.op=.unOp .not t x):OpV P K o (JV (cOp K x)):=.pure λg st a w z st' _ _ f e=>by unfold JV at e;have d:=f x (by simp[ho,Op.operands]);cases h1:Nat.beq (rd st.T (cOp K x)) 17 with|true=>rw[h1,ak]at e;injection e with b c;refine⟨c.symm,.bool false,?_,by rw[<-b];exact .cell _ _ (.bool false)⟩;simp[execOp,ho,d.Vi (ai h1),Op.unary]|false=>rw[h1,ah]at e;obtain⟨h2,e⟩:=ag e;injection e with b c;refine⟨c.symm,.bool true,?_,by rw[<-b];exact .cell _ _ (.bool true)⟩;simp[execOp,ho,d.Ws (ai h2),Op.unary]
def Kq(k:IntKind)(c:Nat)(x:Opd)(st:St):RS:=sel (Nat.beq (Nat.mod (rd st.T x) 256) c) (fc (eI k (k.wrap (Int.sub 0 (dI (rd st.T x))))) λz=>sel (Nat.beq z 0) .no (.ok z st)) .no
theorem nT{b:Bool}{x:RS}{w:Nat}{st:St}(h:sel b .no x=.ok w st):b=false/\x=.ok w st:=by cases b with|false=>exact⟨rfl,h⟩|true=>cases h
theorem fH{a b:Nat}(h:Nat.beq a b=false):a≠b:=Nat.ne_of_beq_eq_false h
theorem Qw{t:TypeId}{x:Operand}{k:IntKind}(ho:o.op=.unOp .neg t x):OpV P K o (Kq k (2+16*kc k) (cOp K x)):=.pure λg st a w z st' _ _ h e=>by unfold Kq at e;obtain⟨h1,e⟩:=ag e;rw[bX]at e;obtain⟨h2,e⟩:=nT e;injection e with b f;obtain⟨n,c,d,a3,_⟩:=(h x (by simp[ho,Op.operands])).int (ai h1);rw[c,o8 k n a3]at b h2;refine⟨f.symm,.int k (k.wrap (0-n)),?_,by rw[<-b];exact .cell _ _ (JE g k _ (fH h2))⟩;simp[execOp,ho,d,Op.unary,Op.intArith]
def Ei(k:IntKind)(x:Opd)(st:St):RS:=sel (Nat.beq (Nat.mod (rd st.T x) 16) 2) (fc (eI k (k.wrap (dI (rd st.T x)))) λz=>sel (Nat.beq z 0) .no (.ok z st)) .no
theorem KW{s d:TypeId}{x:Operand}{k:IntKind}{u:TypeDesc}(ho:o.op=.convert s d x)(hs:P.underlying s=some u)(hd:P.underlying d=some (.int k)):OpV P K o (Ei k (cOp K x)):=.pure λg st a w z st' _ _ i e=>by unfold Ei at e;obtain⟨h1,e⟩:=ag e;rw[bX]at e;obtain⟨h2,e⟩:=nT e;injection e with b h;obtain⟨j,n,c,f,a3,_⟩:=(i x (by simp[ho,Op.operands])).int' (ai h1);rw[c,o8 j n a3]at b h2;refine⟨h.symm,.int k (k.wrap n),?_,by rw[<-b];exact .cell _ _ (JE g k _ (fH h2))⟩;cases u<;>simp[execOp,ho,f,convert,jqa hs,jqa hd,Conv.intToInt]
theorem L9{s d:TypeId}{x:Operand}{u:TypeDesc}(ho:o.op=.convert s d x)(hs:P.underlying s=some u)(hd:P.underlying d=some .string):OpV P K o (λst=>sel (Nat.beq (Nat.mod (rd st.T (cOp K x)) 16) 3) (.ok (rd st.T (cOp K x)) st) .no):=.pure λg st a w z st' _ _ i e=>by obtain⟨h1,e⟩:=ag e;injection e with f h;have b:=i x (by simp[ho,Op.operands]);have h1:rd st.T (cOp K x)%16=3:=ai h1;obtain⟨q,l,j,c,_⟩:=(b.aP oqo oqo oqo oqo).rY h1;refine⟨h.symm,a.eval x,?_,by rw[<-f];exact b⟩;cases u<;>simp[execOp,ho,c,convert,jqa hs,jqa hd]
def ln(w:Nat):Nat:=Nat.mod (Nat.div w 16) 16777216
def sa(w:Nat):Nat:=Nat.div w 268435456
theorem SG{st l:Nat}(h:l<16777216):ln (dC st l)=l:=by show dC st l/16%16777216=l;unfold dC;omega
theorem R7{st l:Nat}(h:l<16777216):sa (dC st l)=st:=by show dC st l/268435456=st;unfold dC;omega
theorem TR.str{g:Gh}{R nR w:Nat}{v:Value}(h:TR g R nR w v)(hm:w%16=3):w=dC (sa w) (ln w)/\v=.string (strOf g.S (sa w) (ln w))/\ln w<16777216/\sa w+ln w<=g.nS/\sa w<4294967296:=by obtain⟨s,l,a,b,h1,h2,h3⟩:=(h.aP oqo oqo oqo oqo).rY hm;subst a;rw[SG h1,R7 h1];exact⟨rfl,b,h1,h2,h3⟩
def zg(S x y:Nat):Bool:=sel (Nat.beq x y) true (sel (Nat.beq (ln x) (ln y)) (Nat.beq (chS S (sa x) (ln x)) (chS S (sa y) (ln y))) false)
theorem yF{S x y:Nat}(_hx:x=dC (sa x) (ln x))(_hy:y=dC (sa y) (ln y)):zg S x y=decide (strOf S (sa x) (ln x)=strOf S (sa y) (ln y)):=by unfold zg;cases h1:Nat.beq x y with|true=>rw[ak,ai h1];simp|false=>rw[ah];cases h2:Nat.beq (ln x) (ln y)with|true=>have h2:=ai h2;rw[ak,qzd,qqu,h2,Dk];exact Nat.beq_eq▸Iff.rfl|false=>rw[ah];symm;refine qqt λh=>fH h2 ?_;have:=jqi ByteArray.size h;rwa[fJ,fJ]at this
theorem TZ(x y:ByteArray):(x.toList==y.toList)=decide (x=y):=by rw[ByteArray.toList_eq,ByteArray.toList_eq,qzd,jqz,qqu];exact⟨λh=>jje (jxj h),λh=>by rw[h]⟩
def CK(neg:Bool)(x y:Opd)(st:St):RS:=sel (Nat.beq (Nat.mod (rd st.T x) 16) 3) (sel (Nat.beq (Nat.mod (rd st.T y) 16) 3) (.ok (sel (zg st.S (rd st.T x) (rd st.T y)) (sel neg 1 17) (sel neg 17 1)) st) .no) .no
theorem Ea{t u:TypeId}{x y:Operand}(neg:Bool)(ho:o.op=.binOp (if neg then .neq else .eql) t x y u):OpV P K o (CK neg (cOp K x) (cOp K y)):=.pure λg st a w z st' _ k c e=>by
 unfold CK at e;obtain⟨h1,e⟩:=ag e;obtain⟨h2,e⟩:=ag e;injection e with b j;obtain⟨h,i,_⟩:=(c x (by simp[ho,Op.operands])).str (ai h1);obtain⟨b1,b2,_⟩:=(c y (by simp[ho,Op.operands])).str (ai h2);rw[yF h b1,k.S]at b;generalize strOf g.S (sa (rd st.T (cOp K x))) (ln (rd st.T (cOp K x)))=d at*;generalize strOf g.S (sa (rd st.T (cOp K y))) (ln (rd st.T (cOp K y)))=f at*;refine⟨j.symm,.bool (neg^^decide (d=f)),?_,?_⟩;·cases neg<;>simp[execOp,ho,i,b2,eqGuard_at_string,binOp,Op.stringOp,TZ]
 ·rw[<-b];cases neg<;>cases decide (d=f)<;>first|exact .cell _ _ (.bool true)|exact .cell _ _ (.bool false)
def Kh(x y:Opd)(st:St):RS:=sel (Nat.beq (Nat.mod (rd st.T x) 16) 3) (sel (Nat.beq (Nat.mod (rd st.T y) 16) 3) (sel (Nat.blt (Nat.add (ln (rd st.T x)) (ln (rd st.T y))) 16777216) (sel (Nat.blt st.nS 4294967296)
  (fc (adS st.S st.nS (adS (chS st.S (sa (rd st.T x)) (ln (rd st.T x))) (ln (rd st.T x)) (chS st.S (sa (rd st.T y)) (ln (rd st.T y))))) λS=> .ok (dC st.nS (Nat.add (ln (rd st.T x)) (ln (rd st.T y)))) (setS S (Nat.add st.nS (Nat.add (ln (rd st.T x)) (ln (rd st.T y)))) st)) .no) .no) .no) .no
theorem O5{t u:TypeId}{x y:Operand}(ho:o.op=.binOp .add t x y u):OpV P K o (Kh (cOp K x) (cOp K y)):=λg st a w z st' _ k v e=>by
 unfold Kh at e;obtain⟨h1,e⟩:=ag e;obtain⟨h2,e⟩:=ag e;obtain⟨h3,e⟩:=ag e;obtain⟨m,e⟩:=ag e;rw[bX]at e;injection e with j d;obtain⟨n,l,a3,a4,a5⟩:=(v x (by simp[ho,Op.operands])).str (ai h1);obtain⟨b1,b2,p,q,r⟩:=(v y (by simp[ho,Op.operands])).str (ai h2);have h3:=aY h3;have m:=aY m;change ln (rd st.T (cOp K x))+ln (rd st.T (cOp K y))<_ at h3;change dC st.nS (ln (rd st.T (cOp K x))+ln (rd st.T (cOp K y)))=z at j;revert j d h3 n l a3 a4 a5 b1 b2 p q r;generalize ln (rd st.T (cOp K x))=b;generalize ln (rd st.T (cOp K y))=c;generalize sa (rd st.T (cOp K x))=f;generalize sa (rd st.T (cOp K y))=h;intro d n l a3 a4 a5 b1 b2 p q r h3 j;have A:=zn (mh st.S f b) (mh st.S h c);obtain⟨B,C⟩:=k.pool (b+c) _ A;refine⟨_,w,.string (strOf g.S f b++strOf g.S h c),.inl ?_,⟨by rw[<-d];exact B,C,by rw[<-d];exact Ext.refl _ _,?_,by rw[<-d],by rw[<-d]⟩,λ_=>.inl rfl⟩;·simp only[execOp,ho,l,b2,qjm,eqGuard_at_string];simp[binOp,Op.stringOp,fJ,IntKind.max,IntKind.signed,IntKind.bits];omega
 ·rw[<-j];refine .cell _ _ ?_;have s:∀i,i<b+c->aN (adS st.S st.nS (adS (chS st.S f b) b (chS st.S h c))) (st.nS+i)=if i<b then aN st.S (f+i)else aN st.S (h+(i-b)):=λi hi=>by
   rw[jG _ _ k.Slt,qzc oqo,show st.nS+i-st.nS=i by omega,jG _ _ (mh st.S f b)];by_cases hl:i<b;·rw[qzb hl,qzb hl,lV,qzb hl]
   ·rw[qzc hl,qzc hl,lV,qzb oqo]
  rw[DC (adS st.S st.nS (adS (chS st.S f b) b (chS st.S h c))) st.nS (λi hi=>by rw[s i oqo,qzb hi,k.S])
   (λi hi=>by rw[jqp,s _ oqo,qzc oqo,show b+i-b=i by omega,k.S])];exact .str st.nS (b+c) h3 (qqf _) m
def IZ(x y:Opd)(st:St):RS:=sel (Nat.beq (Nat.mod (rd st.T x) 16) 3) (sel (Nat.beq (Nat.mod (rd st.T y) 16) 2) (sel (Nat.ble 9223372036854775808 (Nat.div (rd st.T y) 256)) (sel (Nat.blt (Nat.sub (Nat.div (rd st.T y) 256) 9223372036854775808) (ln (rd st.T x)))
  (.ok (Nat.add 2361183241434822606914 (Nat.mul 256 (aN st.S (Nat.add (sa (rd st.T x)) (Nat.sub (Nat.div (rd st.T y) 256) 9223372036854775808))))) st) .no) .no) .no) .no
theorem GM(b:Nat):aC .u8 (b:Int)=2361183241434822606914+256*b:=by show 2+16*4+256*((b:Int)+9223372036854775808).toNat=_;omega
theorem sV(b:Nat):aC .i64 (b:Int)=2361183241434822606898+256*b:=by show 2+16*3+256*((b:Int)+9223372036854775808).toNat=_;omega
theorem TR.ix{g:Gh}{R nR w:Nat}{v:Value}(h:TR g R nR w v)(hm:w%16=2)(h0:9223372036854775808<=w/256):∃k,v=.int k ((w/256-9223372036854775808:Nat):Int):=by obtain⟨k,n,a,b,h1,h2⟩:=h.int' hm;refine⟨k,?_⟩;have:=iY k;rw[b,a];rw[a]at h0;unfold aC at*;congr 1;omega
theorem KL(S st l i:Nat)(h:i<l):(strOf S st l)[i]? =some (UInt8.ofNat (aN S (st+i))):=by
 have h1:i<(strOf S st l).size:=by rw[fJ];exact h
 have h2:=bM S st l;rw[getElem?_pos _ i h1];have h3:(strOf S st l).data.toList[i]? =some (strOf S st l)[i]:=by rw[qqh (show i<(strOf S st l).data.toList.length from h1)];rfl
 rw[h2,qqp,qqz h]at h3;rw[<-h3];rfl
theorem byte_toNat(S i:Nat):(UInt8.ofNat (aN S i)).toNat=aN S i:=by rw[UInt8.toNat_ofNat'];exact qje (jm _ _)
theorem RZ{t:TypeId}(ht:P.underlying t=some .string)(s:ByteArray)(k:IntKind)(i:Nat)(w:World){b:UInt8}(h:s[i]? =some b):(Instr.index t (.string s) (.int k (i:Int))).run P w=.ok (.int .u8 b.toNat) w:=by simp[Instr.index,asIntOf,jqa ht,h]
theorem PV{t:TypeId}{x y:Operand}(ho:o.op=.index t x y)(ht:P.underlying t=some .string):OpV P K o (IZ (cOp K x) (cOp K y)):=.pure λg st a w z st' _ j d e=>by
 unfold IZ at e;obtain⟨h1,e⟩:=ag e;obtain⟨h2,e⟩:=ag e;obtain⟨h3,e⟩:=ag e;obtain⟨b,e⟩:=ag e;injection e with c h;obtain⟨l,f,a3,a4,a5⟩:=(d x (by simp[ho,Op.operands])).str (ai h1);have h3:=dY h3;have b:=aY b;simp only[nA,Ev.nS,nM,nD]at h3 b c;obtain⟨k,b2⟩:=(d y (by simp[ho,Op.operands])).ix (ai h2) h3;clear e h3;generalize rd st.T (cOp K y)/256-9223372036854775808=i at*;refine⟨h.symm,.int .u8 (aN g.S (sa (rd st.T (cOp K x))+i):Nat),?_,?_⟩;·have:=RZ (P:=P) ht (strOf g.S (sa (rd st.T (cOp K x))) (ln (rd st.T (cOp K x)))) k i w (KL _ _ _ _ b);rw[byte_toNat]at this;simp only[execOp,ho,f,b2,qjm,this,qjl];rfl
 ·rw[<-c,<-GM,j.S];exact .cell _ _ (.int _ _ oqo (by have:=jm g.S (sa (rd st.T (cOp K x))+i);omega))
def Jc(x:Opd)(st:St):RS:=sel (Nat.beq (Nat.mod (rd st.T x) 16) 3) (.ok (Nat.add 2361183241434822606898 (Nat.mul 256 (ln (rd st.T x)))) st) .no
theorem OH{t:TypeId}{x:Operand}(ho:o.op=.call {callee:=.builtin .len,args:=#[x],argTypes:=#[t]})(ht:P.underlying t=some .string):OpV P K o (Jc (cOp K x)):=.pure λg st a w z st' _ _ f e=>by
 unfold Jc at e;obtain⟨h1,e⟩:=ag e;injection e with c d;obtain⟨h,b,a3,a4,a5⟩:=(f x (by simp[ho,Op.operands,Call.operands])).str (ai h1);refine⟨d.symm,.int .i64 (ln (rd st.T (cOp K x)):Nat),?_,?_⟩;·simp[execOp,ho,resolve,invoke,builtin,Builtin.len_,jqa ht,b,fJ,goInt]
 ·rw[<-c];change TR g st.R st.nR (2361183241434822606898+256*ln (rd st.T (cOp K x))) _;rw[<-sV];exact .cell _ _ (.int _ _ oqo oqo)
end
end Ev
namespace Ev
def ps(w:Nat):Nat:=Nat.mod (Nat.div w 16) 16777216
def pz(w:Nat):Nat:=Nat.mod (Nat.div w 268435456) 16777216
def po(w:Nat):Nat:=Nat.div w 4503599627370496
def sl(w:Nat):Nat:=Nat.mod (Nat.div w 4503599627370496) 16777216
def se(w:Nat):Nat:=Nat.mod (Nat.div w 75557863725914323419136) 256
def so(w:Nat):Nat:=Nat.div w 19342813113834066795298816
theorem TN{s z o:Nat}(hs:s<16777216):ps (bR s z o)=s:=by show bR s z o/16%16777216=s;unfold bR;omega
theorem TV{s z o:Nat}(hs:s<16777216)(hz:z<16777216):pz (bR s z o)=z:=by show bR s z o/268435456%16777216=z;unfold bR;omega
theorem TF{s z o:Nat}(hs:s<16777216)(hz:z<16777216):po (bR s z o)=o:=by show bR s z o/4503599627370496=o;unfold bR;omega
theorem TR.ptr{g:Gh}{R nR w:Nat}{v:Value}(h:TR g R nR w v)(hm:w%16=5):∃blk base room,w=bR (ps w) (pz w) (po w)/\v=.pointer (some ⟨blk,base+po w,none⟩)/\ps w<16777216/\pz w<16777216/\g.rho (ps w)=.cells blk base (pz w) room/\po w<=pz w:=by obtain⟨s,z,o,blk,base,room,e,a,hs,hz,hr,ho⟩:=(h.aP oqo oqo oqo oqo).Av hm;subst e;rw[TN hs,TV hs hz,TF hs hz];exact⟨blk,base,room,rfl,a,hs,hz,hr,ho⟩
theorem Tw{s z l e o:Nat}(hs:s<16777216):ps (aX s z l e o)=s:=by show aX s z l e o/16%16777216=s;unfold aX;omega
theorem TL{s z l e o:Nat}(hs:s<16777216)(hz:z<16777216):pz (aX s z l e o)=z:=by show aX s z l e o/268435456%16777216=z;unfold aX;omega
theorem Iq{s z l e o:Nat}(hs:s<16777216)(hz:z<16777216)(hl:l<16777216):sl (aX s z l e o)=l:=by show aX s z l e o/4503599627370496%16777216=l;unfold aX;omega
theorem Tz{s z l e o:Nat}(hs:s<16777216)(hz:z<16777216)(hl:l<16777216)(he:e<256):se (aX s z l e o)=e:=by show aX s z l e o/75557863725914323419136%256=e;unfold aX;omega
theorem AY{s z l e o:Nat}(hs:s<16777216)(hz:z<16777216)(hl:l<16777216)(he:e<256):so (aX s z l e o)=o:=by show aX s z l e o/19342813113834066795298816=o;unfold aX;omega
theorem TR.sli{g:Gh}{R nR w:Nat}{v:Value}(h:TR g R nR w v)(hm:w%16=7):∃blk base room cap a,w=aX (ps w) (pz w) (sl w) (se w) (so w)/\v=.slice (some a) (sl w) cap/\ps w<16777216/\pz w<16777216/\sl w<16777216/\se w<256/\g.rho (ps w)=.cells blk base (pz w) room/\so w+sl w*se w<=pz w/\sl w<=cap/\(cap=0\/(a=⟨blk,base+so w,none⟩/\so w+cap*se w<=room)):=by obtain⟨s,z,l,e,o,blk,base,room,cap,a,c,b,hs,hz,hl,he,hr,ho,hc,ha⟩:=(h.aP oqo oqo oqo oqo).wu hm;subst c;rw[Tw hs,TL hs hz,Iq hs hz hl,Tz hs hz hl he,AY hs hz hl he];exact⟨blk,base,room,cap,a,rfl,b,hs,hz,hl,he,hr,ho,hc,ha⟩
section
variable {P:Program}{K:Kon}{o:Oper}
def Kl(off:Nat)(x:Opd)(st:St):RS:=sel (Nat.beq (Nat.mod (rd st.T x) 16) 5) (sel (Nat.ble (Nat.add (po (rd st.T x)) off) (pz (rd st.T x))) (.ok (Nat.add (rd st.T x) (Nat.mul 4503599627370496 off)) st) .no) .no
theorem Gg{t:TypeId}{fs:Array Field}{j:Nat}{f:Field}{i:TypeInfo}(ht:P.underlying t=some (.struct fs))(hf:fs[j]? =some f)(hi:P.info? f.type=some i)(hz:i.size≠0)(b q:Nat)(w:World):(Instr.fieldAt t (.pointer (some ⟨b,q,none⟩)) j).run P w=.ok (.pointer (some ⟨b,q+f.offset,none⟩)) w:=by simp[Instr.fieldAt,jqa ht,hf,Instr.sureAddr,fieldPlace,dF hi,hz,kg]
theorem OV{t:TypeId}{x:Operand}{j:Nat}{fs:Array Field}{f:Field}{i:TypeInfo}(ho:o.op=.fieldAddr t x j)(ht:P.underlying t=some (.struct fs))(hf:fs[j]? =some f)(hi:P.info? f.type=some i)(hz:i.size≠0):OpV P K o (Kl f.offset (cOp K x)):=.pure λg st a w z st' _ m k e=>by
 unfold Kl at e;obtain⟨h1,e⟩:=ag e;obtain⟨h2,e⟩:=ag e;injection e with b h;have h2:=dY h2;simp only[nA,nM]at h2 b;obtain⟨blk,base,room,c,d,a3,a4,a5,l⟩:=(k x (by simp[ho,Op.operands])).ptr (ai h1);refine⟨h.symm,.pointer (some ⟨blk,base+po (rd st.T (cOp K x))+f.offset,none⟩),?_,?_⟩;·simp only[execOp,ho,d,qjm,Gg ht hf hi hz,qjl];rfl
 ·have:z=bR (ps (rd st.T (cOp K x))) (pz (rd st.T (cOp K x))) (po (rd st.T (cOp K x))+f.offset):=by
   rw[<-b];conv=>lhs;rw[c]
   unfold bR;omega
  rw[this,jqp];exact .cell _ _ (.ptr _ _ _ blk base room a3 a4 a5 h2)
def ixN(w:Nat):Nat:=Nat.sub (Nat.div w 256) 9223372036854775808
def qY(w:Nat):Bool:=sel (Nat.beq (Nat.mod w 16) 2) (Nat.ble 9223372036854775808 (Nat.div w 256)) false
theorem TR.ixN{g:Gh}{R nR w:Nat}{v:Value}(h:TR g R nR w v)(hm:qY w=true):∃k,v=.int k (ixN w:Nat):=by unfold qY at hm;cases h1:Nat.beq (Nat.mod w 16) 2 with|false=>rw[h1]at hm;cases hm|true=>rw[h1,ak]at hm;have h3:=dY hm;rw[nD]at h3;obtain⟨k,hk⟩:=h.ix (ai h1) h3;exact⟨k,by rw[hk];unfold Ev.ixN;rw[nS,nD]⟩
def KF(size:Nat)(x y:Opd)(st:St):RS:=sel (Nat.beq (Nat.mod (rd st.T x) 16) 7) (sel (qY (rd st.T y)) (sel (Nat.blt (ixN (rd st.T y)) (sl (rd st.T x))) (sel (Nat.beq (se (rd st.T x)) size)
  (.ok (Nat.add (Nat.sub (Nat.mod (rd st.T x) 4503599627370496) 2) (Nat.mul 4503599627370496 (Nat.add (so (rd st.T x)) (Nat.mul (ixN (rd st.T y)) size)))) st) .no) .no) .no) .no
theorem TH{t e:TypeId}{i:TypeInfo}(ht:P.underlying t=some (.slice e))(hi:P.info? e=some i)(b q l c:Nat)(k:IntKind)(j:Nat)(hj:j<l)(w:World):(Instr.indexAt t (.slice (some ⟨b,q,none⟩) l c) (.int k (j:Int))).run P w=.ok (.pointer (some ⟨b,q+j*i.size,none⟩)) w:=by have h1:(0:Int)<=(j:Int)/\(j:Int)<(l:Int):=oqo;simp[Instr.indexAt,asIntOf,jqa ht,dF hi,kg,h1];intro hc;omega
theorem Tm{s z l e q k:Nat}(hs:s<16777216)(hz:z<16777216):aX s z l e q%4503599627370496-2+4503599627370496*k=bR s z k:=by unfold aX bR;omega
theorem LZ{j l e:Nat}(h:j<l):j*e+e<=l*e:=by have:=jqk e (Nat.succ_le_of_lt h);rwa[Nat.succ_mul]at this
theorem PO{t e:TypeId}{x y:Operand}{i:TypeInfo}(ho:o.op=.indexAddr t x y)(ht:P.underlying t=some (.slice e))(hi:P.info? e=some i):OpV P K o (KF i.size (cOp K x) (cOp K y)):=.pure λg st a w z st' _ r f e=>by
 unfold KF at e;obtain⟨h1,e⟩:=ag e;obtain⟨h2,e⟩:=ag e;obtain⟨h3,e⟩:=ag e;obtain⟨c,e⟩:=ag e;injection e with b p;have h3:=aY h3;have c:=ai c;simp only[nA,nM,Ev.nS,Ev.nR]at b;obtain⟨blk,base,room,cap,ad,h,l,a3,a4,a5,m,n,q,a9,j⟩:=(f x (by simp[ho,Op.operands])).sli (ai h1);obtain⟨k,b2⟩:=(f y (by simp[ho,Op.operands])).ixN h2;obtain⟨rfl,s⟩:=j.resolve_left oqo;rw[h,Tm a3 a4]at b;rw[AY a3 a4 a5 m]at b;have hm:=LZ (e:=se (rd st.T (cOp K x))) h3;refine⟨p.symm,.pointer (some ⟨blk,base+so (rd st.T (cOp K x))+ixN (rd st.T (cOp K y))*i.size,none⟩),?_,?_⟩;·simp only[execOp,ho,l,b2,qjm,TH ht hi _ _ _ _ k _ h3,qjl];rfl
 ·have d:so (rd st.T (cOp K x))+ixN (rd st.T (cOp K y))*se (rd st.T (cOp K x))<=pz (rd st.T (cOp K x)):=by omega
  rw[c]at d;rw[jqp];exact b▸TR.cell _ _ (VR.ptr _ _ _ blk base room a3 a4 n d)
def JF(n size:Nat)(x y:Opd)(st:St):RS:=sel (Nat.beq (Nat.mod (rd st.T x) 16) 5) (sel (qY (rd st.T y)) (sel (Nat.blt (ixN (rd st.T y)) n) (sel (Nat.ble (Nat.add (po (rd st.T x)) (Nat.mul (ixN (rd st.T y)) size)) (pz (rd st.T x)))
  (.ok (Nat.add (rd st.T x) (Nat.mul 4503599627370496 (Nat.mul (ixN (rd st.T y)) size))) st) .no) .no) .no) .no
theorem SV{t e:TypeId}{n:Nat}{i:TypeInfo}(ht:P.underlying t=some (.array n e))(hi:P.info? e=some i)(b q:Nat)(k:IntKind)(j:Nat)(hj:j<n)(w:World):(Instr.indexAt t (.pointer (some ⟨b,q,none⟩)) (.int k (j:Int))).run P w=.ok (.pointer (some ⟨b,q+j*i.size,none⟩)) w:=by have h1:(0:Int)<=(j:Int)/\(j:Int)<(n:Int):=oqo;simp[Instr.indexAt,asIntOf,jqa ht,Instr.sureAddr,dF hi,kg,h1];intro hc;omega
theorem Py{t e:TypeId}{x y:Operand}{n:Nat}{i:TypeInfo}(ho:o.op=.indexAddr t x y)(ht:P.underlying t=some (.array n e))(hi:P.info? e=some i):OpV P K o (JF n i.size (cOp K x) (cOp K y)):=.pure λg st a w z st' _ m d e=>by
 unfold JF at e;obtain⟨h1,e⟩:=ag e;obtain⟨h2,e⟩:=ag e;obtain⟨h3,e⟩:=ag e;obtain⟨b,e⟩:=ag e;injection e with c j;have h3:=aY h3;have b:=dY b;simp only[nA,nM]at c b;obtain⟨blk,base,room,f,h,a3,a4,a5,l⟩:=(d x (by simp[ho,Op.operands])).ptr (ai h1);obtain⟨k,b2⟩:=(d y (by simp[ho,Op.operands])).ixN h2;refine⟨j.symm,.pointer (some ⟨blk,base+po (rd st.T (cOp K x))+ixN (rd st.T (cOp K y))*i.size,none⟩),?_,?_⟩;·simp only[execOp,ho,h,b2,qjm,SV ht hi _ _ k _ h3,qjl];rfl
 ·have:z=bR (ps (rd st.T (cOp K x))) (pz (rd st.T (cOp K x))) (po (rd st.T (cOp K x))+ixN (rd st.T (cOp K y))*i.size):=by
   rw[<-c];conv=>lhs;lhs;rw[f]
   unfold bR;generalize ixN (rd st.T (cOp K y))*i.size=q;omega
  rw[this,jqp];exact .cell _ _ (.ptr _ _ _ blk base room a3 a4 a5 b)
def D9(x:Opd)(st:St):RS:=sel (Nat.beq (Nat.mod (rd st.T x) 16) 5) (sel (Nat.blt (po (rd st.T x)) (pz (rd st.T x))) (.ok (gt st.M (Nat.add (ps (rd st.T x)) (po (rd st.T x)))) st) .no) .no
theorem Hm{t:TypeId}{x:Operand}{d:TypeDesc}(ho:o.op=.load t x)(ht:P.underlying t=some d)(hd:fU d=false):OpV P K o (D9 (cOp K x)):=.pure λg st a w z st' _ h i e=>by unfold D9 at e;obtain⟨h1,e⟩:=ag e;obtain⟨h2,e⟩:=ag e;injection e with b f;have h2:=aY h2;rw[nA]at b;obtain⟨blk,base,room,j,c,a3,a4,a5,k⟩:=(i x (by simp[ho,Op.operands])).ptr (ai h1);obtain⟨v,hv,hr⟩:=h.load a5 h2;refine⟨f.symm,v,?_,by rw[<-b];exact .cell _ _ hr⟩;simp[execOp,ho,c,Instr.loadAt,Instr.sureAddr,loadVar,pQ ht,hd,hv]
def yN(n:Nat)(x:Opd)(st:St):RS:=sel (Nat.beq (Nat.mod (rd st.T x) 16) 5) (sel (Nat.ble (Nat.add (po (rd st.T x)) n) (pz (rd st.T x))) (sel (Nat.blt st.nR 4294967296)
  (fc (ad st.R st.nR (ch st.M (Nat.add (ps (rd st.T x)) (po (rd st.T x))) n)) λR=>.ok (Nat.add (Nat.add 12 (Nat.mul 16 n)) (Nat.mul 268435456 st.nR)) (setR R (Nat.add st.nR n) st)) .no) .no) .no
theorem Dr{t:TypeId}{x:Operand}{d:TypeDesc}{i:TypeInfo}(ho:o.op=.load t x)(ht:P.underlying t=some d)(hd:fU d=true)(hi:P.info? t=some i)(hn:i.size<16777216):OpV P K o (yN i.size (cOp K x)):=λg st a w z st' _ b r e=>by
 unfold yN at e;obtain⟨h1,e⟩:=ag e;obtain⟨h2,e⟩:=ag e;obtain⟨h3,e⟩:=ag e;rw[bX]at e;injection e with c h;have h2:=dY h2;have h3:=aY h3;simp only[nA,nM]at c h h2;obtain⟨blk,base,room,u,l,a3,a4,a5,y⟩:=(r x (by simp[ho,Op.operands])).ptr (ai h1);generalize po (rd st.T (cOp K x))=q at*;generalize ps (rd st.T (cOp K x))=s at*;generalize pz (rd st.T (cOp K x))=A at*;have k:∀j,j<i.size->∃v,w.cell? ⟨blk,base+q+j,none⟩=some v/\VR g (gt st.M (s+q+j)) v:=λj hj=>by have:=b.load (o:=q+j) a5 oqo;rwa[<-jqp,<-jqp]at this
 let f:Nat->Value:=λj=>(w.cell? ⟨blk,base+q+j,none⟩).getD undef;have hf:∀j,j<i.size->w.cell? (Addr.add ⟨blk,base+q,none⟩ j)=some (f j):=λj hj=>by obtain⟨v,hv,_⟩:=k j hj;rw[kg,hv];simp[f,hv]
 have p:=run_loadCells (P:=P) w ⟨blk,base+q,none⟩ i.size f hf;have n:=jD st.M (s+q) i.size;have m:=Ext.ad i.size (ch st.M (s+q) i.size) b.Rlt;subst h;refine⟨g,w,.agg ((List.range i.size).map f).toArray,.inl ?_,⟨b.frame _ _ (ic b.Rlt n),Fr.refl _ _,m,?_,rfl,rfl⟩,λ_=>.inl rfl⟩;·simp[execOp,ho,l,Instr.loadAt,Instr.sureAddr,loadVar,pQ ht,hd,dF hi,p]
 ·rw[<-c,show 12+16*i.size+268435456*st.nR=dU st.nR i.size from rfl];refine .agg _ _ _ hn h3 (qqf _) (by simp) λj hj=>?_;rw[dM _ _ b.Rlt,qzc oqo,show st.nR+j-st.nR=j by omega,jF,qzb hj];obtain⟨v,hv,hr⟩:=k j hj;have:(((List.range i.size).map f).toArray).getD j undef=v:=by simp[hj,f,hv]
  rw[this];exact hr
end
end Ev
