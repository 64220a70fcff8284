/- Joint text: ODoes, OBa, OBb, OBc, OBd, OShA. By an AI agent. -/
import Derived.Test.YtgdibfnpkcdiiaaGreatDoorSzy
import Derived.Test.YtgdibfnpkcdiiaaGreatDoorS19
set_option linter.all false
set_option maxRecDepth 100000
set_option maxHeartbeats 64000000
namespace Go.Proofs.YtgdibfnpkcdiiaaGreatDoor
open Go.RowKit Go.Maps
def EK(w:World):(zeroValue 2).run Tryz.prog w=.ok (.int .i64 0) w:=Tryz.zeroValue2 w
def F8(w:World):(zeroValue 3).run Tryz.prog w=.ok (.int .i64 0) w:=Tryz.zeroValue3 w
def LW:Tryz.prog.underlying 2=some (.int .i64):=kqk
def EM:Tryz.prog.underlying 3=some (.int .i64):=kqk
structure InN(x:In):Prop where
 v:okN x.v
 a:okN x.a
 b:okN x.b
 n:okN x.n
 bin:(Lit.int .u8 x.bin).wf=true
section
variable {w:World}{g b0 b1 b2 n:Nat}{B:af}
def dJ.okv{κ:Type}{k:TypeId}{good:κ->Prop}{kv:κ->Value}{kl:κ->Lit}{e t:TypeId}{w:World}{b n:Nat}{f:κ->Option Int}(h:dJ k good kl e w b n f)(T:pQ k good kv kl)(ht:Tryz.prog.underlying t=some (.map k e))(he:Tryz.prog.underlying e=some (.int .i64))(hz:(zeroValue e).run Tryz.prog w=.ok (.int .i64 0) w){x:κ}(i:good x){y:Int}(j:f x=some y):okN y:=by
 obtain⟨D,h1,h2⟩:=h;obtain⟨v,ps,m,hv⟩:=h1.look_ok T.keyed ht hz (plainElem_int (H:=Unit) he (a:=0) (by decide)) (T.key i);obtain⟨o,l⟩:=h2 x i;obtain⟨c,rfl,hc,hw⟩:=plainElem_int_inv he hv;have:=jqp Prod.fst hc;simp only at this;rw[show(DataW.lit (Lit.int IntKind.i64 0):DataW Unit)=fV 0 from rfl,l,j]at this;have d:y=c:=by injection this with d;injection d
 rw[d];exact hw
def cZ.mQ(h:cZ w g b0 b1 b2 n B){a:Int}(ha:okN a):(Instr.lookup 190 (.map (some b0)) (.int .i64 a) true).run Tryz.prog w=.ok (.tuple #[.int .i64 ((B.num a).getD 0),.bool (B.num a).isSome]) w:=h.num.look jI qY LW (EK w) ha
def cZ.jU(h:cZ w g b0 b1 b2 n B){o:Nat}{x y:Int}(hk:okB (o,x,y)):(Instr.lookup 192 (.map (some b2)) (.agg #[.int .u8 o,.int .i64 x,.int .i64 y]) true).run Tryz.prog w=.ok (.tuple #[.int .i64 ((B.dD o x y).getD 0),.bool (B.dD o x y).isSome]) w:=h.dD.look mJ yZ EM (F8 w) hk
def cZ.qy(h:cZ w g b0 b1 b2 n B){a:Int}(ha:okN a):okN (B.root a):=by unfold af.root;cases e:B.cp a with|none=>exact ha|some y=>exact h.cp.okv jI FC EM (F8 w) ha e
def cZ.aat(h:cZ w g b0 b1 b2 n B){o:Nat}{x y v:Int}(hk:okB (o,x,y))(e:B.dD o x y=some v):okN v:=h.dD.okv mJ yZ EM (F8 w) (x:=(o,x,y)) hk e
def cZ.aaN(h:cZ w g b0 b1 b2 n B){a v:Int}(ha:okN a)(e:B.num a=some v):okN v:=h.num.okv jI qY LW (EK w) ha e
def cZ.jP(h:cZ w g b0 b1 b2 n B)(hn:n<maxLen){v m:Int}(hv:okN v)(hm:okN m):∃w',(Instr.mapUpdate 190 (.map (some b0)) (.int .i64 v) (.int .i64 m)).run Tryz.prog w=.ok () w'/\cZ w' g b0 b1 b2 (n+1) (B.jP v m)/\KO (λk=>k=b0) w w':=by obtain⟨w',r,h1,h2⟩:=h.num.store jI qY LW hn hv hm;have k:=rF h2;obtain⟨a,b,c⟩:=h.ne;exact⟨w',r,⟨k.blk h.blk oqo,h1,(h.cp.same (k.block _ h.cp.lt oqo)).mono oqo,(h.dD.same (k.block _ h.dD.lt oqo)).mono oqo,h.ne⟩,k⟩
def cZ.aV(h:cZ w g b0 b1 b2 n B)(hn:n<maxLen){v m:Int}(hv:okN v)(hm:okN m):∃w',(Instr.mapUpdate 191 (.map (some b1)) (.int .i64 v) (.int .i64 m)).run Tryz.prog w=.ok () w'/\cZ w' g b0 b1 b2 (n+1) (B.aV v m)/\KO (λk=>k=b1) w w':=by obtain⟨w',r,h1,h2⟩:=h.cp.store jI FC EM hn hv hm;have k:=rF h2;obtain⟨a,b,c⟩:=h.ne;exact⟨w',r,⟨k.blk h.blk oqo,(h.num.same (k.block _ h.num.lt oqo)).mono oqo,h1,(h.dD.same (k.block _ h.dD.lt oqo)).mono oqo,h.ne⟩,k⟩
def cZ.qN(h:cZ w g b0 b1 b2 n B)(hn:n<maxLen){o:Nat}{x y v:Int}(hk:okB (o,x,y))(hv:okN v):∃w',(Instr.mapUpdate 192 (.map (some b2)) (.agg #[.int .u8 o,.int .i64 x,.int .i64 y]) (.int .i64 v)).run Tryz.prog w=.ok () w'/\cZ w' g b0 b1 b2 (n+1) (B.qN o x y v)/\KO (λk=>k=b2) w w':=by obtain⟨w',r,h1,h2⟩:=h.dD.store mJ yZ EM hn (x:=(o,x,y)) hk hv;have k:=rF h2;obtain⟨a,b,c⟩:=h.ne;refine⟨w',r,⟨k.blk h.blk oqo,(h.num.same (k.block _ h.num.lt oqo)).mono oqo,(h.cp.same (k.block _ h.cp.lt oqo)).mono oqo,?_,h.ne⟩,k⟩;obtain⟨D,d1,d2⟩:=h1;refine⟨D,d1,λz hz=>?_⟩;have:=d2 z hz;obtain⟨i,d,e⟩:=z;simp only[af.qN,Prod.mk.injEq]at this⊢;exact this
end
def CF(g b0 b1 b2 n:Nat)(B:af)(x:In)(av:Value)(w:World)(h:cZ w g b0 b1 b2 n B)(hx:InN x)(hn:n+2<maxLen):Calls Tryz.prog 97 #[.pointer (some ⟨g,0,none⟩),aJ ⟨x,av⟩] w λe w'=>e=.returned (.tuple #[])/\cZ w' g b0 b1 b2 (n+2) (B.does x)/\KO (jv b0 b1 b2) w w':=by
 obtain⟨op,v,a,b,m,bin,args,f,arr,t⟩:=x;obtain⟨hv,ha,hb,hm,r0⟩:=hx;simp only at hv ha hb hm r0;have H:=hqh h;have lg:=h.blk.lt;clear h;have D:=Fy ⟨⟨op,v,a,b,m,bin,args,f,arr,t⟩,av⟩;have bx:∀W:World,Blk (W.alloc (.cells #[.int .u8 op,.int .i64 v,.int .i64 a,.int .i64 b,.int .i64 m,.int .u8 bin,av,.int .i64 f,.int .i64 arr,.int .i64 t] 71)) W.heap.size 71 #[.int .u8 op,.int .i64 v,.int .i64 a,.int .i64 b,.int .i64 m,.int .u8 bin,av,.int .i64 f,.int .i64 arr,.int .i64 t]:=λW=>Blk.new W 71 _;unfold aJ;unfold aJ at D;simp only[]at D⊢;by_cases k:fq op=true
 ·have e0:sS ⟨op,v,a,b,m,bin,args,f,arr,t⟩=.tuple #[.int .i64 v,.bool true]:=by unfold sS bD;simp only[k,jzo]
  rw[e0]at D;go_enter Tryz.func97,Tryz.ntmps97;have HX:=hqh (bx w);have zs:(w.alloc (.cells #[.int .u8 op,.int .i64 v,.int .i64 a,.int .i64 b,.int .i64 m,.int .u8 bin,av,.int .i64 f,.int .i64 arr,.int .i64 t] 71)).heap.size=w.heap.size+1:=jqh ..;go_upto_region 3 with(first|(go_at_call 133;refine(D _).mono ?_;rintro e w1⟨rfl,I⟩)|fail);have X1:=HX.o.below I;have H1:=H.o.below ((qjk w.heap.size w).alloc (qqf _) _|>.trans (I.mono oqo));have L:=(qjk w.heap.size w).alloc (qqf _) _|>.trans (I.mono oqo);have N:=hqh X1;have U:=hqh H1;have j0:=hqh L;clear X1 H1 L HX I D;refine wp_region_draw (List.replicate 12 true) (λW=>Below w1.heap.size w1 W) 0 eF (λ_ a A _ hd h=>by cases a;cases A;cases hd;exact h) kqk (λ_ _ h=>h) ?_;iterate 12 refine aR (λK d=>?_);rw[qzb kqk];refine⟨_,λZ j=>(by have q:=U.o.below j;have k0:=q.blk.cell 0;have ka:=(N.o.below j).cell 2;have kl:=q.mQ ha;clear q;go_simp;try rfl),?_⟩;simp only[qqa];refine d _ ?_;clear d
  refine bJ ?_;intro vs Wd C S R;refine au kqk ?_;have i0:=hqh (U.o.below R);have o0:=hqh (N.o.below R);have m0:=hqh (j0.o.trans (R.mono (by have:=N.o.lt;omega)));have P:=KZ g b0 b1 b2 n v B Wd i0.o hv;have l0:b0<w.heap.size:=H.o.num.lt;have l1:b1<w.heap.size:=H.o.cp.lt;have l2:b2<w.heap.size:=H.o.dD.lt;clear R S C U N j0;have d1:¬jv b0 b1 b2 w.heap.size:=by unfold jv;omega
  go_upto_region 6 with(first| (go_at_call 138;refine P.mono ?_;rintro e J⟨rfl,p0,d0⟩;have G:=hqh (d0.blk o0.o d1);have E:=hqh ((KO.below (O:=jv b0 b1 b2) m0.o).then' d0 λi _ c=>c);have l:=hqh p0;have x0:=G.o.cell 0;clear d0 p0)|fail);clear P o0 m0 i0;by_cases V:op=1
  ·subst V;go_upto_region 7 with fail;refine wp_region_draw [true,true,true,true,true,true,true,false] (λW=>Below J.heap.size J W) 1 eF (λ_ a A _ hd h=>by cases a;cases A;cases hd;exact h) kqk (λ_ _ h=>h) ?_;iterate 7 refine aR (λK d=>?_);rw[qzb kqk];refine⟨_,λZ j=>(by have q:=l.o.below j;have k0:=q.blk.cell 0;have x4:=(G.o.below j).cell 4;clear q;go_simp;try rfl),?_⟩;simp only[qqa];refine d _ ?_;clear d
   refine bg (bJ ?_);intro vs We C S s;obtain⟨w3,hr,r,u⟩:=(l.o.below s).jP oqo hv hm;have z:=hqh r;have F:=hqh u;clear r u;refine ai 7 rfl kqk (λKK d=>?_);go_simp;refine d.o _ _ (Or.inr ((C.o 7).trans kqk)) ?_;clear d;refine au kqk ?_;go_wp2_with fail;go_end0;refine⟨rfl,z.o.mono oqo,?_⟩;exact(E.o.trans (KO.below s)).trans (F.o.weak λi e=>Or.inl e)
  by_cases X:op=2
  ·subst X;go_upto_region 9 with fail;refine wp_region_draw [true,true,true,true,true,true,true,false] (λW=>Below J.heap.size J W) 1 eF (λ_ a A _ hd h=>by cases a;cases A;cases hd;exact h) kqk (λ_ _ h=>h) ?_;iterate 7 refine aR (λK d=>?_);rw[qzb kqk];refine⟨_,λZ j=>(by have q:=l.o.below j;have k1:=q.blk.cell 1;have x2:=(G.o.below j).cell 2;clear q;go_simp;try rfl),?_⟩;simp only[qqa];refine d _ ?_;clear d
   refine bg (bJ ?_);intro vs We C S s;obtain⟨w3,hr,r,u⟩:=(l.o.below s).aV oqo hv ha;have z:=hqh r;have F:=hqh ((E.o.trans (KO.below s)).trans (u.weak λi e=>Or.inr (Or.inl e)));clear r u;refine ai 7 rfl kqk (λKK d=>?_);go_simp;refine d.o _ _ (Or.inr ((C.o 7).trans kqk)) ?_;clear d hr;refine au kqk ?_
   cases M:B.num a with|none=>
    have T:=hqh M;clear M;simp only[qzp,jxh];go_wp2_with fail;go_end0;refine⟨rfl,?_,F.o⟩;have:B.does ⟨2,v,a,b,m,bin,args,f,arr,t⟩=(B.put v).aV v a:=by unfold af.does bD;simp only[k,jzo];rw[T.o];rfl
    rw[this];exact z.o.mono oqo|some y=>
    have hy:=H.o.num.okv jI qY LW (EK w) ha M;have T:=hqh M;clear M;simp only[qzm,qzn];obtain⟨w5,hr,q0,s0⟩:=z.o.jP oqo hv hy;have k0:=z.o.blk.cell 0;have y0:=hqh q0;have a1:=hqh s0;clear q0 s0;go_wp2_with fail;go_end0;refine⟨rfl,?_,F.o.trans (a1.o.weak λi e=>Or.inl e)⟩;have:B.does ⟨2,v,a,b,m,bin,args,f,arr,t⟩=((B.put v).aV v a).jP v y:=by unfold af.does bD;simp only[k,jzo];rw[T.o];rfl
    rw[this];exact y0.o
  by_cases Y:op=3
  ·subst Y;have x2:=G.o.cell 2;have x3:=G.o.cell 3;have fin:(v=a\/v=b)->B.does ⟨3,v,a,b,m,bin,args,f,arr,t⟩=B.put v:=λhc=>by unfold af.does bD;simp only[k,jzo];rw[qzc (by decide),qzc (by decide),qzc (by rintro⟨c1,c2⟩;rcases hc with c|c;exact c1 c;exact c2 c)]
   by_cases c1:v=a
   ·have p:=hqh (fin (Or.inl c1));clear fin;have q1:(v !=a)=false:=by simpa using c1
    have HC:=hqh c1;clear c1;go_wp2_with fail;go_end0;exact⟨rfl,by rw[p.o];exact l.o.mono oqo,E.o⟩
   by_cases c2:v=b
   ·have p:=hqh (fin (Or.inr c2));clear fin;have q1:(v !=a)=true:=by simpa using c1
    have q2:(v !=b)=false:=by simpa using c2
    have HC:=hqh c2;clear c2;go_wp2_with fail;go_end0;exact⟨rfl,by rw[p.o];exact l.o.mono oqo,E.o⟩
   have q1:(v !=a)=true:=by simpa using c1
   have q2:(v !=b)=true:=by simpa using c2
   have p:Hid (B.does ⟨3,v,a,b,m,bin,args,f,arr,t⟩=(B.put v).qN bin a b v):=hqh (by unfold af.does bD;simp only[k,jzo];rw[qzc (by decide),qzc (by decide),qzb ⟨c1,c2⟩]);clear fin;have g1:=hqh c1;have i1:=hqh c2;clear c1 c2;go_upto_region 14 with fail;clear x2 x3;refine wp_region_draw [true,true,true,true,true,true,true,true,true,true,true,true,false] (λW=>Below J.heap.size J W) 1 eF (λ_ a A _ hd h=>by cases a;cases A;cases hd;exact h) kqk (λ_ _ h=>h) ?_;iterate 12 refine aR (λK d=>?_);rw[qzb kqk];refine⟨_,λZ j=>(by have q:=l.o.below j;have k2:=q.blk.cell 2;have Q:=G.o.below j;have y2:=Q.cell 2;have y3:=Q.cell 3;have y5:=Q.cell 5;clear q Q;go_simp;try rfl),?_⟩;simp only[qqa];refine d _ ?_;clear d
   refine bg (bJ ?_);intro vs We C S s;obtain⟨w3,hr,r,u⟩:=(l.o.below s).qN (o:=bin) (x:=a) (y:=b) oqo ⟨r0,ha,hb⟩ hv;have z:=hqh r;have F:=hqh u;clear r u;refine ai 12 rfl kqk (λKK d=>?_);go_simp;refine d.o _ _ (Or.inr ((C.o 12).trans kqk)) ?_;clear d;refine au kqk ?_;go_wp2_with fail;go_end0;refine⟨rfl,by rw[p.o];exact z.o.mono oqo,?_⟩;exact(E.o.trans (KO.below s)).trans (F.o.weak λi e=>Or.inr (Or.inr e))
  have q1:((op:Int)==1)=false:=qqe.2 oqo;have q2:((op:Int)==2)=false:=qqe.2 oqo;have q3:((op:Int)==3)=false:=qqe.2 oqo;have p1:¬(op:Int)=1:=oqo;have p2:¬(op:Int)=2:=oqo;have p3:¬(op:Int)=3:=oqo;have p:Hid (B.does ⟨op,v,a,b,m,bin,args,f,arr,t⟩=B.put v):=hqh (by unfold af.does bD;simp only[k,jzo];rw[qzc V,qzc X,qzc Y]);clear V X Y;go_wp2_with fail;go_end0;exact⟨rfl,by rw[p.o];exact l.o.mono oqo,E.o⟩
 ·have k:fq op=false:=by simpa using k
  have e0:sS ⟨op,v,a,b,m,bin,args,f,arr,t⟩=.tuple #[.int .i64 0,.bool false]:=by unfold sS bD;simp only[k,qzr,jxa]
  have p:Hid (B.does ⟨op,v,a,b,m,bin,args,f,arr,t⟩=B):=hqh (by unfold af.does bD;simp only[k,qzr,jxa]);rw[e0]at D;have zs:(w.alloc (.cells #[.int .u8 op,.int .i64 v,.int .i64 a,.int .i64 b,.int .i64 m,.int .u8 bin,av,.int .i64 f,.int .i64 arr,.int .i64 t] 71)).heap.size=w.heap.size+1:=jqh ..;go_enter Tryz.func97,Tryz.ntmps97;go_wp2_with(first|(go_at_call 133;refine(D _).mono ?_;rintro e w1⟨rfl,I⟩)|fail);refine jxp (results_none rfl _ _ _) rfl ?_;have L:=(qjk w.heap.size w).alloc (qqf _) _|>.trans (I.mono oqo);exact⟨rfl,by rw[p.o];exact(H.o.below L).mono oqo,KO.below L⟩
section
variable (bp_:Value)(v_ a_ b_ nn f ar t:Int)(A_:Option Addr)(c_:Nat)
def qi(m:Int)(al:Bool)(w_:World):cB bp_ v_ a_ b_ nn f ar t A_ c_ w_ 1 0 true m al (aS (bn v_ b_)):=LU
def Kb(w_:World):cB bp_ v_ a_ b_ nn f ar t A_ c_ w_ 1 0 false 0 false (⟨3,v_,a_,b_,nn,1,[],f,ar,t⟩):=obB
def Kv(w_:World):cB bp_ v_ a_ b_ nn f ar t A_ c_ w_ 1 0 false 0 true (aS (bn v_ a_)):=pR
def Aq(m:Int)(a:(m==0)=false)(w_:World):cB bp_ v_ a_ b_ nn f ar t A_ c_ w_ 1 0 false m true (⟨3,v_,a_,b_,nn,1,[],f,ar,t⟩):=obB
def Au(n:Int)(n0:(n==0)=false)(w_:World):cB bp_ v_ a_ b_ nn f ar t A_ c_ w_ 1 n true 0 false (⟨3,v_,a_,b_,nn,1,[],f,ar,t⟩):=obB
def zW(n:Int)(n0:(n==0)=false)(w_:World):cB bp_ v_ a_ b_ nn f ar t A_ c_ w_ 1 n true 0 true (aS (bn v_ a_)):=pR
def qd(n:Int)(m:Int)(n0:(n==0)=false)(a:(m==0)=false)(w_:World):cB bp_ v_ a_ b_ nn f ar t A_ c_ w_ 1 n true m true (⟨3,v_,a_,b_,nn,1,[],f,ar,t⟩):=obB
def qc(m:Int)(al:Bool)(w_:World):cB bp_ v_ a_ b_ nn f ar t A_ c_ w_ 9 0 true m al (aS (bn v_ b_)):=LU
def MM(w_:World):cB bp_ v_ a_ b_ nn f ar t A_ c_ w_ 9 0 false 0 false (⟨3,v_,a_,b_,nn,9,[],f,ar,t⟩):=obB
def MI(w_:World):cB bp_ v_ a_ b_ nn f ar t A_ c_ w_ 9 0 false 0 true (aS (bn v_ a_)):=pR
def AP(m:Int)(a:(m==0)=false)(w_:World):cB bp_ v_ a_ b_ nn f ar t A_ c_ w_ 9 0 false m true (⟨3,v_,a_,b_,nn,9,[],f,ar,t⟩):=obB
def Ao(n:Int)(n0:(n==0)=false)(w_:World):cB bp_ v_ a_ b_ nn f ar t A_ c_ w_ 9 n true 0 false (⟨3,v_,a_,b_,nn,9,[],f,ar,t⟩):=obB
def Bj(n:Int)(n0:(n==0)=false)(w_:World):cB bp_ v_ a_ b_ nn f ar t A_ c_ w_ 9 n true 0 true (aS (bn v_ a_)):=pR
def qo(n:Int)(m:Int)(n0:(n==0)=false)(a:(m==0)=false)(w_:World):cB bp_ v_ a_ b_ nn f ar t A_ c_ w_ 9 n true m true (⟨3,v_,a_,b_,nn,9,[],f,ar,t⟩):=obB
end
section
variable (bp_:Value)(v_ a_ b_ nn f ar t:Int)(A_:Option Addr)(c_:Nat)
def oM(m:Int)(al:Bool)(w_:World):cB bp_ v_ a_ b_ nn f ar t A_ c_ w_ 10 0 true m al (aS (bn v_ b_)):=LU
def IZ(w_:World):cB bp_ v_ a_ b_ nn f ar t A_ c_ w_ 10 0 false 0 false (⟨3,v_,a_,b_,nn,10,[],f,ar,t⟩):=obB
def Iy(w_:World):cB bp_ v_ a_ b_ nn f ar t A_ c_ w_ 10 0 false 0 true (aS (bn v_ a_)):=pR
def yu(m:Int)(a:(m==0)=false)(w_:World):cB bp_ v_ a_ b_ nn f ar t A_ c_ w_ 10 0 false m true (⟨3,v_,a_,b_,nn,10,[],f,ar,t⟩):=obB
def yx(n:Int)(n0:(n==0)=false)(w_:World):cB bp_ v_ a_ b_ nn f ar t A_ c_ w_ 10 n true 0 false (⟨3,v_,a_,b_,nn,10,[],f,ar,t⟩):=obB
def yG(n:Int)(n0:(n==0)=false)(w_:World):cB bp_ v_ a_ b_ nn f ar t A_ c_ w_ 10 n true 0 true (aS (bn v_ a_)):=pR
def ow(n:Int)(m:Int)(n0:(n==0)=false)(a:(m==0)=false)(w_:World):cB bp_ v_ a_ b_ nn f ar t A_ c_ w_ 10 n true m true (⟨3,v_,a_,b_,nn,10,[],f,ar,t⟩):=obB
def qA(n:Int)(a:Bool)(w_:World):cB bp_ v_ a_ b_ nn f ar t A_ c_ w_ 2 n a 0 false (⟨3,v_,a_,b_,nn,2,[],f,ar,t⟩):=obB
def pX(n:Int)(a:Bool)(w_:World):cB bp_ v_ a_ b_ nn f ar t A_ c_ w_ 2 n a 0 true (aS (bn v_ a_)):=pR
def jk(n:Int)(a:Bool)(m:Int)(b:(m==0)=false)(w_:World):cB bp_ v_ a_ b_ nn f ar t A_ c_ w_ 2 n a m true (⟨3,v_,a_,b_,nn,2,[],f,ar,t⟩):=obB
def oN(n:Int)(a:Bool)(w_:World):cB bp_ v_ a_ b_ nn f ar t A_ c_ w_ 11 n a 0 false (⟨3,v_,a_,b_,nn,11,[],f,ar,t⟩):=obB
def oJ(n:Int)(a:Bool)(w_:World):cB bp_ v_ a_ b_ nn f ar t A_ c_ w_ 11 n a 0 true (aS (bn v_ a_)):=pR
def iQ(n:Int)(a:Bool)(m:Int)(b:(m==0)=false)(w_:World):cB bp_ v_ a_ b_ nn f ar t A_ c_ w_ 11 n a m true (⟨3,v_,a_,b_,nn,11,[],f,ar,t⟩):=obB
end
section
variable (bp_:Value)(v_ a_ b_ nn f ar t:Int)(A_:Option Addr)(c_:Nat)
def oG(n:Int)(a:Bool)(w_:World):cB bp_ v_ a_ b_ nn f ar t A_ c_ w_ 13 n a 0 false (⟨3,v_,a_,b_,nn,13,[],f,ar,t⟩):=obB
def oI(n:Int)(a:Bool)(w_:World):cB bp_ v_ a_ b_ nn f ar t A_ c_ w_ 13 n a 0 true (aS (bn v_ a_)):=pR
def iR(n:Int)(a:Bool)(m:Int)(b:(m==0)=false)(w_:World):cB bp_ v_ a_ b_ nn f ar t A_ c_ w_ 13 n a m true (⟨3,v_,a_,b_,nn,13,[],f,ar,t⟩):=obB
def qh(m:Int)(al:Bool)(w_:World):cB bp_ v_ a_ b_ nn f ar t A_ c_ w_ 3 1 true m al (aS (bn v_ b_)):=LU
def Mo(w_:World):cB bp_ v_ a_ b_ nn f ar t A_ c_ w_ 3 0 false 1 true (aS (bn v_ a_)):=pR
def KI(w_:World):cB bp_ v_ a_ b_ nn f ar t A_ c_ w_ 3 0 true 1 true (aS (bn v_ a_)):=pR
def LA(n:Int)(n0:(n==0)=false)(a:(n==1)=false)(w_:World):cB bp_ v_ a_ b_ nn f ar t A_ c_ w_ 3 n true 1 true (aS (bn v_ a_)):=pR
def Le(w_:World):cB bp_ v_ a_ b_ nn f ar t A_ c_ w_ 3 0 true 0 false (fQ v_ 0):=obC
def KS(w_:World):cB bp_ v_ a_ b_ nn f ar t A_ c_ w_ 3 0 true 0 true (fQ v_ 0):=obC
def KV(m:Int)(a:(m==0)=false)(b:(m==1)=false)(w_:World):cB bp_ v_ a_ b_ nn f ar t A_ c_ w_ 3 0 true m true (fQ v_ 0):=obC
def K8(w_:World):cB bp_ v_ a_ b_ nn f ar t A_ c_ w_ 3 0 false 0 false (⟨3,v_,a_,b_,nn,3,[],f,ar,t⟩):=obB
def MB(w_:World):cB bp_ v_ a_ b_ nn f ar t A_ c_ w_ 3 0 false 0 true (fQ v_ 0):=obC
def MJ(m:Int)(a:(m==0)=false)(b:(m==1)=false)(w_:World):cB bp_ v_ a_ b_ nn f ar t A_ c_ w_ 3 0 false m true (⟨3,v_,a_,b_,nn,3,[],f,ar,t⟩):=obB
def LQ(n:Int)(n0:(n==0)=false)(a:(n==1)=false)(w_:World):cB bp_ v_ a_ b_ nn f ar t A_ c_ w_ 3 n true 0 false (⟨3,v_,a_,b_,nn,3,[],f,ar,t⟩):=obB
def MQ(n:Int)(n0:(n==0)=false)(a:(n==1)=false)(w_:World):cB bp_ v_ a_ b_ nn f ar t A_ c_ w_ 3 n true 0 true (fQ v_ 0):=obC
def Kq(n:Int)(m:Int)(n0:(n==0)=false)(c:(n==1)=false)(a:(m==0)=false)(b:(m==1)=false)(w_:World):cB bp_ v_ a_ b_ nn f ar t A_ c_ w_ 3 n true m true (⟨3,v_,a_,b_,nn,3,[],f,ar,t⟩):=obB
end
def XD(i:Value)(v a b nn f ar t:Int)(A:Option Addr)(c:Nat)(bi:Nat)(n:Int)(k:Bool)(m:Int)(al:Bool)(j:bi≠1/\bi≠9/\bi≠10/\bi≠2/\bi≠11/\bi≠13/\bi≠3)(w:World):Calls Tryz.prog 184 #[i,.agg #[.int .u8 3,.int .i64 v,.int .i64 a,.int .i64 b,.int .i64 nn,.int .u8 bi,.slice A 0 c,.int .i64 f,.int .i64 ar,.int .i64 t],.int .i64 n,.bool k,.int .i64 m,.bool al] w λe w'=>(∃h,e=.returned (aJ ⟨⟨3,v,a,b,nn,bi,[],f,ar,t⟩,h⟩)/\aD w' h [])/\Below w.heap.size w w':=by obtain⟨l,o,p,q,r,s,u⟩:=j;have G:((bi:Int)==1)=false:=qqe.2 oqo;have x:¬(bi:Int)=1:=oqo;have H:((bi:Int)==9)=false:=qqe.2 oqo;have y:¬(bi:Int)=9:=oqo;have I:((bi:Int)==10)=false:=qqe.2 oqo;have z:¬(bi:Int)=10:=oqo;have J:((bi:Int)==2)=false:=qqe.2 oqo;have C:¬(bi:Int)=2:=oqo;have K:((bi:Int)==11)=false:=qqe.2 oqo;have D:¬(bi:Int)=11:=oqo;have L:((bi:Int)==13)=false:=qqe.2 oqo;have E:¬(bi:Int)=13:=oqo;have M:((bi:Int)==3)=false:=qqe.2 oqo;have F:¬(bi:Int)=3:=oqo;go_enter Tryz.func184,Tryz.ntmps184;go_wp2_with fail;have d:=bx4 w 3 v a b nn bi A 0 c f ar t 3 v a b nn bi A 0 c f ar t 2 v a 0 0 0 none 0 0 0 0 0 2 v b 0 0 0 none 0 0 0 0 0;refine gT (w.heap.size+1) d.1 ?_;exact⟨⟨_,rfl,⟨A,c,rfl,qqy _,Or.inl rfl⟩⟩,d.2⟩
def N9(c:Value)(x:In)(z:x.op=3)(ha:x.args=[])(A:Option Addr)(d:Nat)(n m:Option Int)(w:World):Calls Tryz.prog 184 #[c,aJ ⟨x,.slice A 0 d⟩,.int .i64 (n.getD 0),.bool n.isSome,.int .i64 (m.getD 0),.bool m.isSome] w λe w'=>(∃l,e=.returned (aJ ⟨ak x n m,l⟩)/\aD w' l [])/\Below w.heap.size w w':=by
 obtain⟨op,v,a,b,nn,bi,args,f,ar,t⟩:=x;simp only at z ha;subst z ha;have q:∀{y C:In},C=y->(Calls Tryz.prog 184 #[c,aJ ⟨⟨3,v,a,b,nn,bi,[],f,ar,t⟩,.slice A 0 d⟩,.int .i64 (n.getD 0),.bool n.isSome,.int .i64 (m.getD 0),.bool m.isSome] w λe w'=>(∃l,e=.returned (aJ ⟨y,l⟩)/\aD w' l [])/\Below w.heap.size w w')->Calls Tryz.prog 184 #[c,aJ ⟨⟨3,v,a,b,nn,bi,[],f,ar,t⟩,.slice A 0 d⟩,.int .i64 (n.getD 0),.bool n.isSome,.int .i64 (m.getD 0),.bool m.isSome] w λe w'=>(∃l,e=.returned (aJ ⟨C,l⟩)/\aD w' l [])/\Below w.heap.size w w':=λe h=>by rw[e];exact h
 by_cases b1:bi=1
 ·subst b1;rcases n with _|n
  ·skip;rcases m with _|m;·skip;exact q (by simp[ak, *]) (Kb c v a b nn f ar t A d w)
   ·by_cases i:m=0;·subst i;exact q (by simp[ak, *]) (Kv c v a b nn f ar t A d w)
    ·by_cases j:m=1;·subst j;exact q (by simp[ak, *]) (Aq c v a b nn f ar t A d 1 (qqe.2 oqo) w)
     ·skip;exact q (by simp[ak, *]) (Aq c v a b nn f ar t A d m (qqe.2 oqo) w)
  ·by_cases n0:n=0
   ·subst n0;rcases m with _|m;·skip;exact q (by simp[ak, *]) (qi c v a b nn f ar t A d 0 false w)
    ·by_cases i:m=0;·subst i;exact q (by simp[ak, *]) (qi c v a b nn f ar t A d 0 true w)
     ·by_cases j:m=1;·subst j;exact q (by simp[ak, *]) (qi c v a b nn f ar t A d 1 true w)
      ·skip;exact q (by simp[ak, *]) (qi c v a b nn f ar t A d m true w)
   ·by_cases k:n=1
    ·subst k;rcases m with _|m;·skip;exact q (by simp[ak, *]) (Au c v a b nn f ar t A d 1 (qqe.2 oqo) w)
     ·by_cases i:m=0;·subst i;exact q (by simp[ak, *]) (zW c v a b nn f ar t A d 1 (qqe.2 oqo) w)
      ·by_cases j:m=1;·subst j;exact q (by simp[ak, *]) (qd c v a b nn f ar t A d 1 1 (qqe.2 oqo) (qqe.2 oqo) w)
       ·skip;exact q (by simp[ak, *]) (qd c v a b nn f ar t A d 1 m (qqe.2 oqo) (qqe.2 oqo) w)
    ·skip;rcases m with _|m;·skip;exact q (by simp[ak, *]) (Au c v a b nn f ar t A d n (qqe.2 oqo) w)
     ·by_cases i:m=0;·subst i;exact q (by simp[ak, *]) (zW c v a b nn f ar t A d n (qqe.2 oqo) w)
      ·by_cases j:m=1;·subst j;exact q (by simp[ak, *]) (qd c v a b nn f ar t A d n 1 (qqe.2 oqo) (qqe.2 oqo) w)
       ·skip;exact q (by simp[ak, *]) (qd c v a b nn f ar t A d n m (qqe.2 oqo) (qqe.2 oqo) w)
 by_cases u:bi=9
 ·subst u;rcases n with _|n
  ·skip;rcases m with _|m;·skip;exact q (by simp[ak, *]) (MM c v a b nn f ar t A d w)
   ·by_cases i:m=0;·subst i;exact q (by simp[ak, *]) (MI c v a b nn f ar t A d w)
    ·by_cases j:m=1;·subst j;exact q (by simp[ak, *]) (AP c v a b nn f ar t A d 1 (qqe.2 oqo) w)
     ·skip;exact q (by simp[ak, *]) (AP c v a b nn f ar t A d m (qqe.2 oqo) w)
  ·by_cases n0:n=0
   ·subst n0;rcases m with _|m;·skip;exact q (by simp[ak, *]) (qc c v a b nn f ar t A d 0 false w)
    ·by_cases i:m=0;·subst i;exact q (by simp[ak, *]) (qc c v a b nn f ar t A d 0 true w)
     ·by_cases j:m=1;·subst j;exact q (by simp[ak, *]) (qc c v a b nn f ar t A d 1 true w)
      ·skip;exact q (by simp[ak, *]) (qc c v a b nn f ar t A d m true w)
   ·by_cases k:n=1
    ·subst k;rcases m with _|m;·skip;exact q (by simp[ak, *]) (Ao c v a b nn f ar t A d 1 (qqe.2 oqo) w)
     ·by_cases i:m=0;·subst i;exact q (by simp[ak, *]) (Bj c v a b nn f ar t A d 1 (qqe.2 oqo) w)
      ·by_cases j:m=1;·subst j;exact q (by simp[ak, *]) (qo c v a b nn f ar t A d 1 1 (qqe.2 oqo) (qqe.2 oqo) w)
       ·skip;exact q (by simp[ak, *]) (qo c v a b nn f ar t A d 1 m (qqe.2 oqo) (qqe.2 oqo) w)
    ·skip;rcases m with _|m;·skip;exact q (by simp[ak, *]) (Ao c v a b nn f ar t A d n (qqe.2 oqo) w)
     ·by_cases i:m=0;·subst i;exact q (by simp[ak, *]) (Bj c v a b nn f ar t A d n (qqe.2 oqo) w)
      ·by_cases j:m=1;·subst j;exact q (by simp[ak, *]) (qo c v a b nn f ar t A d n 1 (qqe.2 oqo) (qqe.2 oqo) w)
       ·skip;exact q (by simp[ak, *]) (qo c v a b nn f ar t A d n m (qqe.2 oqo) (qqe.2 oqo) w)
 by_cases o:bi=10
 ·subst o;rcases n with _|n
  ·skip;rcases m with _|m;·skip;exact q (by simp[ak, *]) (IZ c v a b nn f ar t A d w)
   ·by_cases i:m=0;·subst i;exact q (by simp[ak, *]) (Iy c v a b nn f ar t A d w)
    ·by_cases j:m=1;·subst j;exact q (by simp[ak, *]) (yu c v a b nn f ar t A d 1 (qqe.2 oqo) w)
     ·skip;exact q (by simp[ak, *]) (yu c v a b nn f ar t A d m (qqe.2 oqo) w)
  ·by_cases n0:n=0
   ·subst n0;rcases m with _|m;·skip;exact q (by simp[ak, *]) (oM c v a b nn f ar t A d 0 false w)
    ·by_cases i:m=0;·subst i;exact q (by simp[ak, *]) (oM c v a b nn f ar t A d 0 true w)
     ·by_cases j:m=1;·subst j;exact q (by simp[ak, *]) (oM c v a b nn f ar t A d 1 true w)
      ·skip;exact q (by simp[ak, *]) (oM c v a b nn f ar t A d m true w)
   ·by_cases k:n=1
    ·subst k;rcases m with _|m;·skip;exact q (by simp[ak, *]) (yx c v a b nn f ar t A d 1 (qqe.2 oqo) w)
     ·by_cases i:m=0;·subst i;exact q (by simp[ak, *]) (yG c v a b nn f ar t A d 1 (qqe.2 oqo) w)
      ·by_cases j:m=1;·subst j;exact q (by simp[ak, *]) (ow c v a b nn f ar t A d 1 1 (qqe.2 oqo) (qqe.2 oqo) w)
       ·skip;exact q (by simp[ak, *]) (ow c v a b nn f ar t A d 1 m (qqe.2 oqo) (qqe.2 oqo) w)
    ·skip;rcases m with _|m;·skip;exact q (by simp[ak, *]) (yx c v a b nn f ar t A d n (qqe.2 oqo) w)
     ·by_cases i:m=0;·subst i;exact q (by simp[ak, *]) (yG c v a b nn f ar t A d n (qqe.2 oqo) w)
      ·by_cases j:m=1;·subst j;exact q (by simp[ak, *]) (ow c v a b nn f ar t A d n 1 (qqe.2 oqo) (qqe.2 oqo) w)
       ·skip;exact q (by simp[ak, *]) (ow c v a b nn f ar t A d n m (qqe.2 oqo) (qqe.2 oqo) w)
 by_cases b2:bi=2
 ·subst b2;rcases n with _|n
  ·skip;rcases m with _|m;·skip;exact q (by simp[ak, *]) (qA c v a b nn f ar t A d 0 false w)
   ·by_cases i:m=0;·subst i;exact q (by simp[ak, *]) (pX c v a b nn f ar t A d 0 false w)
    ·by_cases j:m=1;·subst j;exact q (by simp[ak, *]) (jk c v a b nn f ar t A d 0 false 1 (qqe.2 oqo) w)
     ·skip;exact q (by simp[ak, *]) (jk c v a b nn f ar t A d 0 false m (qqe.2 oqo) w)
  ·by_cases n0:n=0
   ·subst n0;rcases m with _|m;·skip;exact q (by simp[ak, *]) (qA c v a b nn f ar t A d 0 true w)
    ·by_cases i:m=0;·subst i;exact q (by simp[ak, *]) (pX c v a b nn f ar t A d 0 true w)
     ·by_cases j:m=1;·subst j;exact q (by simp[ak, *]) (jk c v a b nn f ar t A d 0 true 1 (qqe.2 oqo) w)
      ·skip;exact q (by simp[ak, *]) (jk c v a b nn f ar t A d 0 true m (qqe.2 oqo) w)
   ·by_cases k:n=1
    ·subst k;rcases m with _|m;·skip;exact q (by simp[ak, *]) (qA c v a b nn f ar t A d 1 true w)
     ·by_cases i:m=0;·subst i;exact q (by simp[ak, *]) (pX c v a b nn f ar t A d 1 true w)
      ·by_cases j:m=1;·subst j;exact q (by simp[ak, *]) (jk c v a b nn f ar t A d 1 true 1 (qqe.2 oqo) w)
       ·skip;exact q (by simp[ak, *]) (jk c v a b nn f ar t A d 1 true m (qqe.2 oqo) w)
    ·skip;rcases m with _|m;·skip;exact q (by simp[ak, *]) (qA c v a b nn f ar t A d n true w)
     ·by_cases i:m=0;·subst i;exact q (by simp[ak, *]) (pX c v a b nn f ar t A d n true w)
      ·by_cases j:m=1;·subst j;exact q (by simp[ak, *]) (jk c v a b nn f ar t A d n true 1 (qqe.2 oqo) w)
       ·skip;exact q (by simp[ak, *]) (jk c v a b nn f ar t A d n true m (qqe.2 oqo) w)
 by_cases p:bi=11
 ·subst p;rcases n with _|n
  ·skip;rcases m with _|m;·skip;exact q (by simp[ak, *]) (oN c v a b nn f ar t A d 0 false w)
   ·by_cases i:m=0;·subst i;exact q (by simp[ak, *]) (oJ c v a b nn f ar t A d 0 false w)
    ·by_cases j:m=1;·subst j;exact q (by simp[ak, *]) (iQ c v a b nn f ar t A d 0 false 1 (qqe.2 oqo) w)
     ·skip;exact q (by simp[ak, *]) (iQ c v a b nn f ar t A d 0 false m (qqe.2 oqo) w)
  ·by_cases n0:n=0
   ·subst n0;rcases m with _|m;·skip;exact q (by simp[ak, *]) (oN c v a b nn f ar t A d 0 true w)
    ·by_cases i:m=0;·subst i;exact q (by simp[ak, *]) (oJ c v a b nn f ar t A d 0 true w)
     ·by_cases j:m=1;·subst j;exact q (by simp[ak, *]) (iQ c v a b nn f ar t A d 0 true 1 (qqe.2 oqo) w)
      ·skip;exact q (by simp[ak, *]) (iQ c v a b nn f ar t A d 0 true m (qqe.2 oqo) w)
   ·by_cases k:n=1
    ·subst k;rcases m with _|m;·skip;exact q (by simp[ak, *]) (oN c v a b nn f ar t A d 1 true w)
     ·by_cases i:m=0;·subst i;exact q (by simp[ak, *]) (oJ c v a b nn f ar t A d 1 true w)
      ·by_cases j:m=1;·subst j;exact q (by simp[ak, *]) (iQ c v a b nn f ar t A d 1 true 1 (qqe.2 oqo) w)
       ·skip;exact q (by simp[ak, *]) (iQ c v a b nn f ar t A d 1 true m (qqe.2 oqo) w)
    ·skip;rcases m with _|m;·skip;exact q (by simp[ak, *]) (oN c v a b nn f ar t A d n true w)
     ·by_cases i:m=0;·subst i;exact q (by simp[ak, *]) (oJ c v a b nn f ar t A d n true w)
      ·by_cases j:m=1;·subst j;exact q (by simp[ak, *]) (iQ c v a b nn f ar t A d n true 1 (qqe.2 oqo) w)
       ·skip;exact q (by simp[ak, *]) (iQ c v a b nn f ar t A d n true m (qqe.2 oqo) w)
 by_cases r:bi=13
 ·subst r;rcases n with _|n
  ·skip;rcases m with _|m;·skip;exact q (by simp[ak, *]) (oG c v a b nn f ar t A d 0 false w)
   ·by_cases i:m=0;·subst i;exact q (by simp[ak, *]) (oI c v a b nn f ar t A d 0 false w)
    ·by_cases j:m=1;·subst j;exact q (by simp[ak, *]) (iR c v a b nn f ar t A d 0 false 1 (qqe.2 oqo) w)
     ·skip;exact q (by simp[ak, *]) (iR c v a b nn f ar t A d 0 false m (qqe.2 oqo) w)
  ·by_cases n0:n=0
   ·subst n0;rcases m with _|m;·skip;exact q (by simp[ak, *]) (oG c v a b nn f ar t A d 0 true w)
    ·by_cases i:m=0;·subst i;exact q (by simp[ak, *]) (oI c v a b nn f ar t A d 0 true w)
     ·by_cases j:m=1;·subst j;exact q (by simp[ak, *]) (iR c v a b nn f ar t A d 0 true 1 (qqe.2 oqo) w)
      ·skip;exact q (by simp[ak, *]) (iR c v a b nn f ar t A d 0 true m (qqe.2 oqo) w)
   ·by_cases k:n=1
    ·subst k;rcases m with _|m;·skip;exact q (by simp[ak, *]) (oG c v a b nn f ar t A d 1 true w)
     ·by_cases i:m=0;·subst i;exact q (by simp[ak, *]) (oI c v a b nn f ar t A d 1 true w)
      ·by_cases j:m=1;·subst j;exact q (by simp[ak, *]) (iR c v a b nn f ar t A d 1 true 1 (qqe.2 oqo) w)
       ·skip;exact q (by simp[ak, *]) (iR c v a b nn f ar t A d 1 true m (qqe.2 oqo) w)
    ·skip;rcases m with _|m;·skip;exact q (by simp[ak, *]) (oG c v a b nn f ar t A d n true w)
     ·by_cases i:m=0;·subst i;exact q (by simp[ak, *]) (oI c v a b nn f ar t A d n true w)
      ·by_cases j:m=1;·subst j;exact q (by simp[ak, *]) (iR c v a b nn f ar t A d n true 1 (qqe.2 oqo) w)
       ·skip;exact q (by simp[ak, *]) (iR c v a b nn f ar t A d n true m (qqe.2 oqo) w)
 by_cases s:bi=3
 ·subst s;rcases n with _|n
  ·skip;rcases m with _|m;·skip;exact q (by simp[ak, *]) (K8 c v a b nn f ar t A d w)
   ·by_cases i:m=0;·subst i;exact q (by simp[ak, *]) (MB c v a b nn f ar t A d w)
    ·by_cases j:m=1;·subst j;exact q (by simp[ak, *]) (Mo c v a b nn f ar t A d w)
     ·skip;exact q (by simp[ak, *]) (MJ c v a b nn f ar t A d m (qqe.2 oqo) (qqe.2 oqo) w)
  ·by_cases n0:n=0
   ·subst n0;rcases m with _|m;·skip;exact q (by simp[ak, *]) (Le c v a b nn f ar t A d w)
    ·by_cases i:m=0;·subst i;exact q (by simp[ak, *]) (KS c v a b nn f ar t A d w)
     ·by_cases j:m=1;·subst j;exact q (by simp[ak, *]) (KI c v a b nn f ar t A d w)
      ·skip;exact q (by simp[ak, *]) (KV c v a b nn f ar t A d m (qqe.2 oqo) (qqe.2 oqo) w)
   ·by_cases k:n=1
    ·subst k;rcases m with _|m;·skip;exact q (by simp[ak, *]) (qh c v a b nn f ar t A d 0 false w)
     ·by_cases i:m=0;·subst i;exact q (by simp[ak, *]) (qh c v a b nn f ar t A d 0 true w)
      ·by_cases j:m=1;·subst j;exact q (by simp[ak, *]) (qh c v a b nn f ar t A d 1 true w)
       ·skip;exact q (by simp[ak, *]) (qh c v a b nn f ar t A d m true w)
    ·skip;rcases m with _|m;·skip;exact q (by simp[ak, *]) (LQ c v a b nn f ar t A d n (qqe.2 oqo) (qqe.2 oqo) w)
     ·by_cases i:m=0;·subst i;exact q (by simp[ak, *]) (MQ c v a b nn f ar t A d n (qqe.2 oqo) (qqe.2 oqo) w)
      ·by_cases j:m=1;·subst j;exact q (by simp[ak, *]) (LA c v a b nn f ar t A d n (qqe.2 oqo) (qqe.2 oqo) w)
       ·skip;exact q (by simp[ak, *]) (Kq c v a b nn f ar t A d n m (qqe.2 oqo) (qqe.2 oqo) (qqe.2 oqo) (qqe.2 oqo) w)
 exact q (by simp[ak, *]) (XD c v a b nn f ar t A d bi (n.getD 0) n.isSome (m.getD 0) m.isSome ⟨b1,u,o,b2,p,r,s⟩ w)
def Nb{w:World}{sl:Value}(h:sG w sl []):∃A c,sl=.slice A 0 c:=by obtain⟨A,c,rfl,_,_⟩:=h;exact⟨A,c,rfl⟩
def qI{w:World}{sl:Value}{p:Addr}(h:sG w sl [p]):∃a po c,sl=.slice (some ⟨a,po,none⟩) 1 c/\1<=c/\w.cell? ⟨a,po,none⟩=some (.pointer (some p)):=by
 obtain⟨A,c,rfl,hc,hr⟩:=h;rcases hr with hr|⟨a,po,rfl,b⟩;·cases hr
 ·exact⟨a,po,c,rfl,hc,by have:=b 0 p rfl;unfold oH at this;simpa using this⟩
def EJ{w:World}{sl:Value}{p q:Addr}(h:sG w sl [p,q]):∃a po c,sl=.slice (some ⟨a,po,none⟩) 2 c/\2<=c/\w.cell? ⟨a,po,none⟩=some (.pointer (some p))/\w.cell? ⟨a,po+1,none⟩=some (.pointer (some q)):=by
 obtain⟨A,c,rfl,hc,hr⟩:=h;rcases hr with hr|⟨a,po,rfl,b⟩;·cases hr
 ·exact⟨a,po,c,rfl,hc,by have:=b 0 p rfl;unfold oH at this;simpa using this,by have:=b 1 q rfl;unfold oH at this;simpa using this⟩
def Wh{n:Int}(h:okN n):I64 n:=by
 unfold okN Lit.wf at h;have h1:IntKind.min .i64= -9223372036854775808:=by decide
 have h2:IntKind.max .i64=9223372036854775807:=by decide
 simp only[qqn,qqu,h1,h2]at h;exact⟨h.1,h.2⟩
def MU{n:Int}(h:I64 n):okN n:=by
 unfold okN Lit.wf;have h1:IntKind.min .i64= -9223372036854775808:=by decide
 have h2:IntKind.max .i64=9223372036854775807:=by decide
 simp only[qqn,qqu,h1,h2];exact⟨h.1,h.2⟩
def uy(w:World)(c1 c2 c3:Array Value):Blk (((w.alloc (.cells c1 25)).alloc (.cells c2 71)).alloc (.cells c3 71)) w.heap.size 25 c1/\Blk (((w.alloc (.cells c1 25)).alloc (.cells c2 71)).alloc (.cells c3 71)) (w.heap.size+1) 71 c2/\Blk (((w.alloc (.cells c1 25)).alloc (.cells c2 71)).alloc (.cells c3 71)) (w.heap.size+1+1) 71 c3/\Below w.heap.size w (((w.alloc (.cells c1 25)).alloc (.cells c2 71)).alloc (.cells c3 71)):=by
 have a:(w.alloc (.cells c1 25)).heap.size=w.heap.size+1:=jqh ..;have b:((w.alloc (.cells c1 25)).alloc (.cells c2 71)).heap.size=w.heap.size+1+1:=by rw[jqh,a]
 refine⟨((Blk.new w 25 c1).alloc _).alloc _,?_,?_,(((qjk w.heap.size w).alloc (qqf _) _).alloc oqo _).alloc oqo _⟩;·have:=Blk.new (w.alloc (.cells c1 25)) 71 c2;rw[a]at this;exact this.alloc _
 ·have:=Blk.new ((w.alloc (.cells c1 25)).alloc (.cells c2 71)) 71 c3;rw[b]at this;exact this
def Dt(g b0 b1 b2 n:Nat)(B:af)(gp:PrG)(v a b m:Int)(bin:Nat)(f arr t:Int)(A:Option Addr)(l:Nat)(w:World)(h:cZ w g b0 b1 b2 n B)(ha:okN a):Calls Tryz.prog 154 #[.pointer (some ⟨g,0,none⟩),prV gp,aJ ⟨⟨2,v,a,b,m,bin,[],f,arr,t⟩,.slice A 0 l⟩] w λe w'=>(∃l0,e=.returned (aJ ⟨B.dR ⟨2,v,B.root a,b,m,bin,[],f,arr,t⟩,l0⟩)/\aD w' l0 [])/\Below w.heap.size w w':=by
 have H:=hqh h;have lg:=h.blk.lt;clear h;obtain⟨⟨ga,gf,gm⟩,s0,x0,gl⟩:=gp;have r0:=H.o.qy ha;obtain⟨c,F⟩:∃r,r=B.root a:=⟨_,rfl⟩;have S:(B.cp a).getD a=c:=F.symm;rw[<-F]at r0;obtain⟨Y,hY⟩:∃Y:In,Y=B.dR ⟨2,v,B.root a,b,m,bin,[],f,arr,t⟩:=⟨_,rfl⟩;rw[<-hY];rw[<-F]at hY;clear F;have O:=hqh hY;clear hY;unfold prV;rw[show aJ ⟨⟨2,v,a,b,m,bin,[],f,arr,t⟩,.slice A 0 l⟩=.agg #[.int .u8 (2:Nat),.int .i64 v,.int .i64 a,.int .i64 b,.int .i64 m,.int .u8 bin,.slice A 0 l,.int .i64 f,.int .i64 arr,.int .i64 t]from rfl];simp only[];go_enter Tryz.func154,Tryz.ntmps154;go_upto_region 1 with fail;have bs:=uy w #[s0,x0,.int .i64 gm] #[.int .u8 (2:Nat),.int .i64 v,.int .i64 a,.int .i64 b,.int .i64 m,.int .u8 bin,.slice A 0 l,.int .i64 f,.int .i64 arr,.int .i64 t] dW;unfold dW at bs;generalize d1:((w.alloc _).alloc _).alloc _=w3 at bs⊢;clear d1;obtain⟨T,q2,q3,q4⟩:=bs;have X:=hqh T;have k:=hqh q2;have e0:=hqh q3;have j0:=hqh q4;clear T q2 q3 q4;have TK:=mI ⟨2,v,a,b,m,bin,[],f,arr,t⟩ (.slice A 0 l) (w.heap.size+1) w3 k.o (by simp);go_wp2_with(first| (go_at_call 135;refine TK.mono ?_;rintro e w4⟨⟨sl,rfl,q0⟩,m0⟩;obtain⟨pb,po,pc,rfl,l1,o0⟩:=qI q0;have V:=hqh o0;have d:=hqh m0;clear q0 m0 TK o0)|fail);refine jxu 2 ?_;rw[jzx];have L:=hqh (j0.o.trans (d.o.mono (by have:=k.o.lt;omega)));have G:=hqh (H.o.below L.o);have x2:=(k.o.below d.o).cell 2;have f2:=(k.o.below d.o).free 2;have p0:=V.o;have R:=jo g b0 b1 b2 n a B.cp w4 G.o.blk G.o.cp ha;rw[S]at R;have S:=hqh S;go_wp2_with(first|(go_at_call 137;refine R.mono ?_;rintro e w5⟨rfl,rfl⟩)|fail);rw[jzx];go_upto_region 6 with fail;have D:=(k.o.below d.o).put 2 (.int .i64 c);have Q:=(e0.o.below d.o).far (show w.heap.size+1+1≠w.heap.size+1 by omega) 2 (.int .i64 c);have P:=(X.o.below d.o).far (show w.heap.size≠w.heap.size+1 by omega) 2 (.int .i64 c);have C:=L.o.setCell (p:=⟨w.heap.size+1,2,none⟩) (by simp) (.int .i64 c);generalize g1:w4.setCell _ _=w6 at D Q P C⊢;clear g1;simp only[qqb]at D;have N:=hqh D;have i0:=hqh Q;have d0:=hqh P;have M:=hqh C;have I:=hqh (H.o.below C);clear D Q P C R;clear p0 x2 f2 V G L d k e0 j0 X;refine wp_region_draw (List.replicate 12 true) (λW=>Below w6.heap.size w6 W) 0 eF (λ_ a a2 _ hd h=>by cases a;cases a2;cases hd;exact h) kqk (λ_ _ h=>h) ?_;iterate 12 refine aR (λK hK=>?_);rw[qzb kqk];refine⟨_,λZ hZ=>(by have q:=I.o.below hZ;have k0:=q.blk.cell 0;have ka:=(N.o.below hZ).cell 2;have kl:=q.mQ r0;clear q;go_simp;try rfl),?_⟩;simp only[qqa];refine hK _ ?_;clear hK
 refine bJ ?_;intro vs w7 hN a1 o;refine au kqk ?_;have z:=hqh (N.o.below o);have J:=hqh (i0.o.below o);have j1:=hqh (d0.o.below o);have i1:=hqh (I.o.below o);have j:=hqh (M.o.trans (o.mono M.o.size));clear hN a1 o N i0 M I d0;have y0:=z.o.cell 0;have y1:=z.o.cell 1;have y2:=z.o.cell 2;by_cases E:v=c
 ·subst E;have s:Hid (Y={}):=hqh (by rw[O.o];unfold af.dR;rw[qzb rfl]);go_upto_region 10 with fail;apply jqn;iterate 3 go_step
  refine aF rfl 71 (.tmp 6) (.tmp 49) rfl (w.heap.size+1+1) _ rfl rfl 71 _ J.o rfl aX rfl ?_;intro w9 u x;go_wp2_with fail;refine gT (w.heap.size+1+1) u ?_;refine⟨⟨.slice none 0 0,?_,dz _ _ _⟩,j.o.trans (x.aO j.o.size λi e=>by omega)⟩;rw[s.o];rfl
 have T:(v==c)=false:=qqe.2 E;have U:=hqh E;clear E;cases hk:B.num c with|some y=>
  have s:Hid (Y=fQ v y):=hqh (by rw[O.o];unfold af.dR;rw[qzc U.o];simp only[hk]);clear hk;simp only[qzm,qzn];go_upto_region 12 with fail;apply jqn;iterate 12 go_step
  refine aF rfl 71 (.tmp 6) (.tmp 55) rfl (w.heap.size+1+1) _ rfl rfl 71 _ J.o rfl aX rfl ?_;intro w9 u x;go_wp2_with fail;refine gT (w.heap.size+1+1) u ?_;refine⟨⟨.slice none 0 0,?_,dz _ _ _⟩,j.o.trans (x.aO j.o.size λi e=>by omega)⟩;rw[s.o];rfl|none=>have s:Hid (Y=⟨2,v,c,b,m,bin,[],f,arr,t⟩):=hqh (by rw[O.o];unfold af.dR;rw[qzc U.o];simp only[hk]);clear hk;simp only[qzp,jxh];go_upto_region 34 with fail;apply jqn;refine aU rfl 71 (.tmp 5) rfl (w.heap.size+1) rfl 71 _ _ z.o Tryz.underlying71 rfl aX ?_;refine aF rfl 71 (.tmp 6) (.tmp 169) rfl (w.heap.size+1+1) _ rfl rfl 71 _ J.o rfl aX rfl ?_;intro w9 u x;go_wp2_with fail;refine gT (w.heap.size+1+1) u ?_;refine⟨⟨.slice A 0 l,?_,dz _ _ _⟩,j.o.trans (x.aO j.o.size λi e=>by omega)⟩;rw[s.o];rfl
