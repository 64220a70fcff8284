/- Joint text: OPut, ORoot, OFresh, OBlk, ORow, HOneA, EvA, EvB, EvC. By an AI agent. -/
import Derived.Test.YtgdibfnpkcdiiaaGreatDoorSzy
import Derived.Test.YtgdibfnpkcdiiaaGreatDoorS04
import Derived.Maps.Ext
import Derived.Laws.IdiomRangeMap
import Derived.Deep.MidRow
import Derived.Laws.Tables
import Derived.Calls
import Derived.Laws.Sem
import Derived.Lib.FrozenHead
import Derived.Laws.Cells
import Derived.Laws.NewFold
set_option linter.all false
set_option maxRecDepth 100000
set_option maxHeartbeats 64000000
noncomputable section
namespace Go.Proofs.YtgdibfnpkcdiiaaGreatDoor
open Go.RowKit Go.Maps Go.Shelf
def KA(x:rA)(y v:Int)(g:Nat)(w:World)(h:w.cell? ⟨g,0,none⟩=some (.int .i64 v)):Calls Tryz.prog 161 (#[kvB x,.int .i64 y]++ #[.pointer (some ⟨g,0,none⟩)]) w λe w'=>e=.returned (.bool (x.2.1==v||x.2.2==v||y==v))/\w.grownBy w' none:=by
 obtain⟨o,a,b⟩:=x;show Calls Tryz.prog 161 #[.agg #[.int .u8 o,.int .i64 a,.int .i64 b],.int .i64 y,.pointer (some ⟨g,0,none⟩)] w _;have hr:w.grownBy (w.alloc (.cells #[.int .u8 o,.int .i64 a,.int .i64 b] 198)) none:=⟨rfl,rfl,rfl,by simp,λk hk _=>Below.heap_alloc _ _ _ hk⟩;have c:=aB h;simp only[];cases h1:a==v
 ·cases h2:b==v;·cases h3:y==v;all_goals
    go_enter Tryz.func161,Tryz.ntmps161;go_wp2_with fail;all_goals go_ret
    all_goals exact⟨by simp,hr⟩
  ·go_enter Tryz.func161,Tryz.ntmps161;go_wp2_with fail;all_goals go_ret
   all_goals exact⟨by simp,hr⟩
 ·go_enter Tryz.func161,Tryz.ntmps161;go_wp2_with fail;all_goals go_ret
  all_goals exact⟨by simp,hr⟩
open Classical in def Bd(v:Int)(kl:Lit)(b:DataW Unit):Bool:=decide (∃x:rA,okB x/\kl=klB x/\(x.2.1=v\/x.2.2=v))||(match b with| .lit (.int _ y)=>y==v|_=>false)
def Gw(v:Int)(x:rA)(b:okB x)(y:Int):Bd v (klB x) (fV y)=(x.2.1==v||x.2.2==v||y==v):=by
 unfold Bd fV;simp only[];congr 1;rw[qzd];simp only[qqu,qji,jzb];constructor;·rintro⟨z,hz,e,k⟩;have:x=z:=jzh λc=>mJ.ne b hz c e;rw[this];exact k
 ·exact λk=>⟨x,b,rfl,k⟩
def Ym(v:Int)(f:rA->Option Int):rA->Option Int:=λx=>if x.2.1=v\/x.2.2=v then none else if f x=some v then none else f x
def II(w:World)(o:Obj)(r:Option Nat):w.grownBy (w.alloc o) r:=⟨rfl,rfl,rfl,by simp,λk hk _=>Below.heap_alloc _ _ _ hk⟩
def Mv(b n g:Nat)(v:Int)(f:rA->Option Int)(w:World)(h:dJ 198 okB klB 3 w b n f)(hc:w.cell? ⟨g,0,none⟩=some (.int .i64 v))(r0:g≠b):Calls Tryz.prog 160 #[.map (some b),.func (.func 161) #[] #[.pointer (some ⟨g,0,none⟩)]] w λe w'=>e=.returned (.tuple #[])/\dJ 198 okB klB 3 w' b n (Ym v f)/\w.grownBy w' (some b):=by
 obtain⟨D,h1,h2⟩:=h;have K:=mJ.keyed;have key:Calls Tryz.prog 160 #[.map (some b),.func (.func 161) #[] #[.pointer (some ⟨g,0,none⟩)]] w λe w'=>e=.returned (.tuple #[])/\w'.ownsMap Tryz.prog 198 (plainElem Tryz.prog 3) b n (Lib.deleteFuncD (Bd v) D)/\w.grownBy w' (some b):=by
  obtain⟨i0,rfl,R,o0⟩:=h1.entries K;have H2:=hqh h2;clear h2;have HC:=hqh hc;clear hc;go_enter Tryz.func160,Tryz.ntmps160;go_wp2_with(first|(at_range;refine wpList_range_own _ rfl _ 192 rfl 198 3 K Tryz.underlying192 (plainElem Tryz.prog 3) b n _ rfl h1 ?_;intro w0 s0 l0 i1)|go_in);go_frame;go_loopw [8](λ_ wr=>∃(G:Lit->Bool)(cnt:Nat),wr.ranges Tryz.prog 198 (plainElem Tryz.prog 3) b w.heap.size n (Fk (Bd v) i0 G) G cnt/\w.grownBy wr (some b))(λ_ wr=>wr.rangeLeft b w.heap.size);case atStart=>exact⟨_,_,by rw[Fk_start o0];exact s0,l0.but _⟩
  case round=>
   obtain⟨G,cnt,u,U⟩:=hrel;go_wp2_with(first|(at_next;refine wpList_next_ranges _ rfl _ rfl 198 K (plainElem Tryz.prog 3) id id (λkey _ _=>⟨key,rfl⟩) (λv _ _=>⟨v,rfl⟩) b w.heap.size n _ _ _ rfl u ?_ ?_)|go_in);·-- NOTHING IS LEFT
    intro _ p0;go_wp2;go_end0;exact⟨rfl,by rw[<-Fk_end p0];exact u.owns,U⟩
   ·-- AN ENTRY HAS COME
    intro x c kl yd yp w1 d0 i X hv S C q0 m0 x0 j0;have A:=U.andThen m0 (λj hj=>by cases hj;exact Or.inl (qqf _));obtain⟨r,F,rfl⟩:=mJ.inv i;have W:kl=klB r:=by have:=mJ.key F;rw[i]at this;exact jzt this
    obtain⟨y,rfl,M,_⟩:=plainElem_int_inv (q:=.i64) kqk hv;have N:yd=fV y:=jqp Prod.fst M;have t:Bd v kl yd=(r.2.1==v||r.2.2==v||y==v):=by rw[W,N];exact Gw v r F y
    have T:w1.cell? ⟨g,0,none⟩=some (.int .i64 v):=A.cell HC.o (by simpa using r0);obtain⟨s,k,l⟩:=r;simp only[kvB]at i j0⊢;simp only[]at t;have p:=II w1 (.cells #[.int .u8 s,.int .i64 k,.int .i64 l] 198) none;have Z:=C.kept p (by simp) (by simp);have hc:Calls Tryz.prog 161 #[.agg #[.int .u8 s,.int .i64 k,.int .i64 l],.int .i64 y,.pointer (some ⟨g,0,none⟩)] _ _:=KA (s,k,l) y v g (w1.alloc (.cells #[.int .u8 s,.int .i64 k,.int .i64 l] 198)) (p.cell T (by simp));simp only[]at hc;have d1:=C.owns.lt;have g1:=C.lt;have V:=A.andThen p (λj hj=>by cases hj);obtain⟨q,Y⟩:∃q:Bool,q=(k==v||l==v||y==v):=⟨_,rfl⟩;rw[<-Y]at hc t;clear Y;have HR:=hqh Z;have I:=hqh t;have HK:=hqh i;have L:=hqh X;have H:=hqh S;have HV:=hqh p;have J:=hqh V;clear Z t X S p V W N M F T A;cases q
    ·go_wp2_with(first|(go_at_call 161;refine hc.mono ?_;rintro e w2⟨rfl,d⟩)|go_in);have z:=HR.o.kept d (by simp) (by simp);go_roundw;case rel=>exact⟨_,d0,by rw[<-Fk_stays R (K.key i) L.o I.o H.o];exact z,J.o.andThen d (λj hj=>by cases hj)⟩
     case measure=>rw[z.left_eq,u.left_eq];exact q0
    ·go_wp2_with(first|(go_at_call 161;refine hc.mono ?_;rintro e w2⟨rfl,d⟩;have z:=HR.o.kept d (by simp) (by simp);have m:Blk w2 w1.heap.size 198 #[.int .u8 s,.int .i64 k,.int .i64 l]:=(d.block _ (by simp) (by simp)).trans (jxg w1 _);rw[x0]at m;have y0:=m.cell 0;have y1:=m.cell 1;have y2:=m.cell 2;clear m)|(at_delete;refine wpList_delete_ranges _ rfl _ _ 192 198 rfl 3 K Tryz.underlying192 (plainElem Tryz.prog 3) b w.heap.size n _ _ _ rfl z _ _ rfl HK.o ?_;intro w3 e0 E e1 a1;go_frame)|go_in);rw[strike_twice]at E;go_roundw;case rel=>exact⟨_,e0,by rw[<-Fk_struck R (K.key i) L.o I.o H.o];exact E,(J.o.andThen d (λj hj=>by cases hj)).andThen a1.grown (λj hj=>by cases hj;exact Or.inr rfl)⟩
     case measure=>rw[E.left_eq,u.left_eq];omega
 refine key.mono ?_;rintro e w1⟨he,ho,hg⟩;refine⟨he,AO h1 h2 mJ (λx hx=>?_) ho,hg⟩;unfold Ym;cases hf:f x with|none=>simp|some y=>
  simp only[qzm,qzn,true_and,Gw v x hx];by_cases h1:x.2.1=v;·simp[h1]
  ·by_cases h2:x.2.2=v;·simp[h2]
   ·by_cases h3:y=v;·simp[h3]
    ·simp[h1,h2,h3]
def pW{κ:Type}{k:TypeId}{good:κ->Prop}{kv:κ->Value}{kl:κ->Lit}{e:TypeId}{w:World}{b n:Nat}{f:κ->Option Int}{ops:Array Oper}{rest:List Oper}{o:Oper}{a:Act}{Q:Exit->Act->World->Prop}(i:o.guard=none)(m x:Operand)(t:TypeId)(j:o.op=Op.lookup t m x true)(T:pQ k good kv kl)(ht:Tryz.prog.underlying t=some (.map k e))(he:Tryz.prog.underlying e=some (.int .i64))(hz:(zeroValue e).run Tryz.prog w=.ok (.int .i64 0) w)(hm:a.eval m=.map (some b))(h:dJ k good kl e w b n f)(z:κ)(q:good z)(p:a.eval x=kv z)(c:wpList Tryz.prog ops Q rest (a.put o.dst (.tuple #[.int .i64 ((f z).getD 0),.bool (f z).isSome])) w):wpList Tryz.prog ops Q (o::rest) a w:=by refine wpList_plain i λr d=>?_;have l:=h.look T ht he hz q;unfold Oper.wp;simp[execOp,j,hm,p,l,Result.andThen];exact d _ _ c
def jo(g b0 b1 b2 n:Nat)(v:Int)(f:Int->Option Int)(w:World)(h:Blk w g 194 #[.map (some b0),.map (some b1),.map (some b2)])(hm:dJ 3 okN (λx=>.int .i64 x) 3 w b1 n f)(hv:okN v):Calls Tryz.prog 137 #[.pointer (some ⟨g,0,none⟩),.int .i64 v] w λe w'=>e=.returned (.int .i64 ((f v).getD v))/\w=w':=by have ht:Tryz.prog.underlying 191=some (.map 3 3):=kqk;have he:Tryz.prog.underlying 3=some (.int .i64):=kqk;have k1:w.cell? ⟨g,1,none⟩=some (.map (some b1)):=h.cell 1;have b:=h.lt;have hz:(zeroValue 3).run Tryz.prog w=.ok (.int .i64 0) w:=Tryz.zeroValue3 w;cases hf:f v with|none=>go_enter Tryz.func137,Tryz.ntmps137;go_wp2_with(first|(at_lookup;refine pW rfl _ _ 191 rfl jI ht he hz rfl hm v hv rfl ?_;rw[hf];simp only[qzp,jxh])|go_in);go_ret;exact⟨rfl,rfl⟩|some y=>go_enter Tryz.func137,Tryz.ntmps137;go_wp2_with(first|(at_lookup;refine pW rfl _ _ 191 rfl jI ht he hz rfl hm v hv rfl ?_;rw[hf];simp only[qzm,qzn])|go_in);go_ret;exact⟨rfl,rfl⟩
def Pg(w:World):Calls Tryz.prog 93 #[] w λe w'=>∃b0 b1 b2 g,e=.returned (.pointer (some ⟨g,0,none⟩))/\Below w.heap.size w w'/\w.heap.size<=b0/\b0<b1/\b1<b2/\b2<g/\Blk w' g 194 #[.map (some b0),.map (some b1),.map (some b2)]/\w'.heap[b0]? =some (.map #[] 0)/\w'.heap[b1]? =some (.map #[] 0)/\w'.heap[b2]? =some (.map #[] 0):=by
 have i:∀w:World,(Instr.makeMap 190 none).run Tryz.prog w=.ok (.map (some w.heap.size)) (w.alloc (.map #[] 0)):=λw=>run_makeMap ..;have k:∀w:World,(Instr.makeMap 191 none).run Tryz.prog w=.ok (.map (some w.heap.size)) (w.alloc (.map #[] 0)):=λw=>run_makeMap ..;have l:∀w:World,(Instr.makeMap 192 none).run Tryz.prog w=.ok (.map (some w.heap.size)) (w.alloc (.map #[] 0)):=λw=>run_makeMap ..;go_enter Tryz.func93,Tryz.ntmps93;go_wp2_with fail;go_ret;have f:(w.alloc (.map #[] 0)).heap.size=w.heap.size+1:=jqh ..;have h:((w.alloc (.map #[] 0)).alloc (.map #[] 0)).heap.size=w.heap.size+1+1:=by rw[jqh,f]
 have z3:(((w.alloc (.map #[] 0)).alloc (.map #[] 0)).alloc (.map #[] 0)).heap.size=w.heap.size+1+1+1:=by rw[jqh,h]
 have n0:=jxg w (.map #[] 0);have c:=jxg (w.alloc (.map #[] 0)) (.map #[] 0);have d:=jxg ((w.alloc (.map #[] 0)).alloc (.map #[] 0)) (.map #[] 0);rw[f]at c;rw[h]at d;have up:∀(W:World)(o:Obj)(j:Nat),j<W.heap.size->(W.alloc o).heap[j]? =W.heap[j]?:=λW o j hj=>((qjk W.heap.size W).alloc (qqf _) o).block j hj;have b:=Blk.new (((w.alloc (.map #[] 0)).alloc (.map #[] 0)).alloc (.map #[] 0)) 194 #[.map (some w.heap.size),.map (some (w.heap.size+1)),.map (some (w.heap.size+1+1))];rw[z3]at b;refine⟨w.heap.size,w.heap.size+1,w.heap.size+1+1,w.heap.size+1+1+1,rfl,?_,qqf _,by omega,by omega,by omega,b,?_,?_,?_⟩;·exact((((qjk w.heap.size w).alloc (qqf _) _).alloc oqo _).alloc oqo _).alloc oqo _
 ·rw[up _ _ _ oqo,up _ _ _ oqo,up _ _ _ oqo];exact n0
 ·rw[up _ _ _ oqo,up _ _ _ oqo];exact c
 ·rw[up _ _ _ oqo];exact d
structure KO(O:Nat->Prop)(w w':World):Prop where
 os:w'.os=w.os
 tape:w'.tape=w.tape
 output:w'.output=w.output
 size:w.heap.size<=w'.heap.size
 block:∀k,k<w.heap.size->¬O k->w'.heap[k]? =w.heap[k]?
section
variable {O O':Nat->Prop}{w w' w'':World}
def KO.refl(O:Nat->Prop)(w:World):KO O w w:=⟨rfl,rfl,rfl,qqf _,λ_ _ _=>rfl⟩
def KO.trans(h:KO O w w')(k:KO O w' w''):KO O w w'':=⟨k.os.trans h.os,k.tape.trans h.tape,k.output.trans h.output,qzi h.size k.size,λi hi hn=>(k.block i (qzj hi h.size) hn).trans (h.block i hi hn)⟩
def KO.then'(h:KO O w w')(k:KO O' w' w'')(hs:∀i,i<w.heap.size->O' i->O i):KO O w w'':=⟨k.os.trans h.os,k.tape.trans h.tape,k.output.trans h.output,qzi h.size k.size,λi hi hn=>(k.block i (qzj hi h.size) (λc=>hn (hs i hi c))).trans (h.block i hi hn)⟩
def KO.weak(h:KO O w w')(hs:∀i,O i->O' i):KO O' w w':=⟨h.os,h.tape,h.output,h.size,λi hi hn=>h.block i hi λc=>hn (hs i c)⟩
def KO.below(h:Below w.heap.size w w'):KO O w w':=⟨h.os,h.tape,h.output,h.size,λi hi _=>h.block i hi⟩
def KO.aO(h:KO O w w'){n:Nat}(hn:n<=w.heap.size)(b:∀i,O i->n<=i):Below n w w':=⟨h.os,h.tape,h.output,h.size,λi hi=>h.block i oqo λc=>by have:=b i c;omega⟩
def KO.grown{b:Option Nat}(h:w.grownBy w' b)(d:∀i,some i=b->O i):KO O w w':=⟨h.os,h.tape,h.output,h.size,λi hi hn=>h.block i hi λc=>hn (d i c)⟩
def KO.set{a:Addr}(h:O a.block)(u:Value):KO O w (w.setCell a u):=⟨rfl,rfl,rfl,by simp[World.setCell],λi _ hn=>jqr _ _ _ _ λc=>hn (by rw[c];exact h)⟩
def KO.alloc(o:Obj):KO O w (w.alloc o):=KO.below ((qjk _ _).alloc (qqf _) _)
def KO.cell(h:KO O w w'){a:Addr}{v:Value}(hc:w.cell? a=some v)(hn:¬O a.block):w'.cell? a=some v:=(jxz (h.block _ (aB hc) hn)).trans hc
def KO.blk(h:KO O w w'){g:Nat}{t:TypeId}{cs:Array Value}(b:Blk w g t cs)(hn:¬O g):Blk w' g t cs:=(h.block g b.lt hn).trans b
end
structure cZ(w:World)(g b0 b1 b2 n:Nat)(B:af):Prop where
 blk:Blk w g 194 #[.map (some b0),.map (some b1),.map (some b2)]num:dJ 3 okN (λx=>.int .i64 x) 2 w b0 n B.num
 cp:dJ 3 okN (λx=>.int .i64 x) 3 w b1 n B.cp
 dD:dJ 198 okB klB 3 w b2 n (λx=>B.dD x.1 x.2.1 x.2.2)ne:b0<b1/\b1<b2/\b2<g
def jv(b0 b1 b2:Nat)(k:Nat):Prop:=k=b0\/k=b1\/k=b2
section
variable {w w':World}{g b0 b1 b2 n:Nat}{B:af}
def cZ.below(h:cZ w g b0 b1 b2 n B)(b:Below w.heap.size w w'):cZ w' g b0 b1 b2 n B:=⟨h.blk.below b,h.num.below b,h.cp.below b,h.dD.below b,h.ne⟩
def cZ.keep(h:cZ w g b0 b1 b2 n B){O:Nat->Prop}(b:KO O w w')(c:¬O g)(h0:¬O b0)(h1:¬O b1)(h2:¬O b2):cZ w' g b0 b1 b2 n B:=⟨b.blk h.blk c,h.num.same (b.block _ h.num.lt h0),h.cp.same (b.block _ h.cp.lt h1),h.dD.same (b.block _ h.dD.lt h2),h.ne⟩
def cZ.mono(h:cZ w g b0 b1 b2 n B){m:Nat}(hm:n<=m):cZ w g b0 b1 b2 m B:=⟨h.blk,h.num.mono hm,h.cp.mono hm,h.dD.mono hm,h.ne⟩
end
def rF{w w':World}{b:Nat}(h:w.mapTurned w' b):KO (λk=>k=b) w w':=KO.grown h.grown λi e=>jzt e
def qY:Tryz.prog.underlying 190=some (.map 3 2):=kqk
def FC:Tryz.prog.underlying 191=some (.map 3 3):=kqk
def yZ:Tryz.prog.underlying 192=some (.map 198 3):=kqk
def KZ(g b0 b1 b2 n:Nat)(v:Int)(B:af)(w:World)(h:cZ w g b0 b1 b2 n B)(hv:okN v):Calls Tryz.prog 138 #[.pointer (some ⟨g,0,none⟩),.int .i64 v] w λe w'=>e=.returned (.tuple #[])/\cZ w' g b0 b1 b2 n (B.put v)/\KO (jv b0 b1 b2) w w':=by
 obtain⟨u,Y,T,S,o0⟩:=h;have r:=hqh u;have F:=hqh Y;have A:=hqh T;have C:=hqh S;have lg:=u.lt;clear u Y T S;go_enter Tryz.func138,Tryz.ntmps138;go_upto_region 1 with fail;have k0:Blk (w.alloc (.cells #[.int .i64 v] 3)) w.heap.size 3 #[.int .i64 v]:=Blk.new w 3 _;have j:Below w.heap.size w (w.alloc (.cells #[.int .i64 v] 3)):=(qjk _ _).alloc (qqf _) _;have zs:(w.alloc (.cells #[.int .i64 v] 3)).heap.size=w.heap.size+1:=jqh ..;generalize r0:w.alloc (.cells #[.int .i64 v] 3)=wa at k0 j zs⊢;clear r0;have d:=hqh (r.o.below j);have G:=hqh (F.o.below j);have s:=hqh k0;clear k0;refine wp_region_draw [true,true,true,true,true,false] (λW=>Below wa.heap.size wa W) 1 eF (λ_ a a2 _ hd h=>by cases a;cases a2;cases hd;exact h) kqk (λ_ _ h=>h) ?_;iterate 5 refine aR (λK f=>?_);rw[qzb kqk];refine⟨_,λZ R=>(by have kk:=(d.o.below R).cell 0;have kv:=(s.o.below R).cell 0;go_simp;try rfl),?_⟩;simp only[qqa];refine f _ ?_;clear f
 refine bg (bJ ?_);intro vs Wd N i0 m;obtain⟨w1,p0,V,d0⟩:=(G.o.below m).drop jI qY (x:=v) hv 0;refine ai 5 rfl kqk (λKK f=>?_);have HR:=hqh V;have H:=hqh d0;clear V d0;go_simp;refine f.o _ _ (Or.inr ((N.o 5).trans kqk)) ?_;clear f;refine au kqk ?_;obtain⟨s0,x0,y0⟩:=o0;have y:=rF H.o;have l:KO (λk=>k=b0) w w1:=(KO.below (j.trans (m.mono oqo))).then' y λ_ _ c=>c;have I:=hqh l;have l0:b0<w.heap.size:=F.o.lt;have l1:b1<w.heap.size:=A.o.lt;have l2:b2<w.heap.size:=C.o.lt;have p:Blk w1 g 194 #[.map (some b0),.map (some b1),.map (some b2)]:=l.blk r.o oqo;have C1:dJ 3 okN (λx=>.int .i64 x) 3 w1 b1 n B.cp:=A.o.same (l.block _ l1 oqo);have J:=C.o.same (l.block _ l2 oqo);have M:w1.cell? ⟨w.heap.size,0,none⟩=some (.int .i64 v):=by have:=(y.blk (s.o.below m) oqo).cell 0;simpa using this
 have c1:w1.cell? ⟨g,1,none⟩=some (.map (some b1)):=p.cell 1;have D:=hqh J;have d:=hqh p;clear l y J p p0 H s G j m i0 N d;have d:Hid (Blk w1 g 194 #[.map (some b0),.map (some b1),.map (some b2)]):=hqh (I.o.blk r.o oqo);have P1:=Pt b1 n w.heap.size v B.cp w1 C1 M oqo;go_wp2_with(first| (go_at_call 158;refine P1.mono ?_;rintro e b⟨rfl,X,U⟩;have k2:KO (λk=>k=b1) w1 b:=KO.grown U λi e=>jzt e;have q:Blk b g 194 #[.map (some b0),.map (some b1),.map (some b2)]:=k2.blk d.o oqo;have L:dJ 198 okB klB 3 b b2 n (λx=>B.dD x.1 x.2.1 x.2.2):=D.o.same (k2.block _ D.o.lt oqo);have V2:b.cell? ⟨w.heap.size,0,none⟩=some (.int .i64 v):=k2.cell M (by simp only[];omega);have c2:b.cell? ⟨g,2,none⟩=some (.map (some b2)):=q.cell 2;have P2:=Mv b2 n w.heap.size v (λx=>B.dD x.1 x.2.1 x.2.2) b L V2 oqo;have E:=hqh X;have t:=hqh k2;have e0:=hqh q;clear X k2 q U L)|(go_at_call 160;refine P2.mono ?_;rintro e w3⟨rfl,m0,j0⟩)|fail);have k3:KO (λk=>k=b2) b w3:=KO.grown j0 λi e=>jzt e;go_end0;refine⟨rfl,⟨k3.blk e0.o oqo,?_,?_,m0,s0,x0,y0⟩,((I.o.weak (O':=jv b0 b1 b2) λi e=>Or.inl e).trans (t.o.weak λi e=>Or.inr (Or.inl e))).trans (k3.weak λi e=>Or.inr (Or.inr e))⟩;·have z:=HR.o;exact(z.same (t.o.block _ z.lt oqo)).same (k3.block _ (by have:=t.o.size;have:=z.lt;omega) oqo)
 ·exact E.o.same (k3.block _ E.o.lt oqo)
section
variable {P:Program}{ops:Array Oper}{rest:List Oper}{o:Oper}{a:Act}{w:World}{Q:Exit->Act->World->Prop}
def wY{w:World}{g:Nat}{t:TypeId}{cs:Array Value}(h:Blk w g t cs):w.rangeAt g 0 cs.toList:=λj v hv=>by rw[qja,h.cell];simpa using hv
def Kg{w:World}{g:Nat}{t:TypeId}{cs b:Array Value}(h:Blk w g t cs):Blk (w.setRow g b) g t b:=by unfold Blk at h⊢;simp[World.setRow,Array.getElem?_modify,h]
def MV(w:World)(g:Nat)(b:Array Value):KO (λk=>k=g) w (w.setRow g b):=⟨rfl,rfl,rfl,by simp[World.setRow],λk _ hn=>by simp only[World.setRow,Array.getElem?_modify];rw[qzc λc=>hn c.symm]⟩
def aU(c:o.guard=none)(b:TypeId)(x:Operand)(ho:o.op=.load b x)(g:Nat)(e:a.eval x=.pointer (some ⟨g,0,none⟩))(t:TypeId)(cs:Array Value)(d:TypeDesc)(hc:Blk w g t cs)(hu:P.underlying b=some d)(hd:d.isRow=true)(hi:(P.info? b).map (·.size)=some cs.size)(h:wpList P ops Q rest (a.put o.dst (.agg cs)) w):wpList P ops Q (o::rest) a w:=by refine wpList_load_mid c b x ho g 0 e cs.toList d (wY hc) hu hd (by simpa using hi) ?_;simpa using h
def nK{K:Act->World->Prop}(c:TypeId)(x y:Operand)(ho:o.op=.store c x y)(g:Nat)(b:Array Value)(d:a.eval x=.pointer (some ⟨g,0,none⟩))(e:a.eval y=.agg b)(t:TypeId)(cs:Array Value)(hc:Blk w g t cs)(hs:cs.size=b.size)(hi:(P.info? c).map (·.size)=some b.size)(h1:b.toList.all (·.oneCell')=true)(h:∀w',Blk w' g t b->KO (λk=>k=g) w w'->K (a.put o.dst undef) w'):o.wp P a w K Q:=by unfold Oper.wp execOp;have hr:=run_storeVar_row (P:=P) w g t c cs b hc hi hs (by rw[<-Array.all_toList];exact h1);simp only[ho,d,e,Instr.storeAt,Instr.sureAddr,qjm,jzk,qjl,hr];exact h _ (Kg hc) (MV w g b)
def aF(e:o.guard=none)(c:TypeId)(x y:Operand)(ho:o.op=.store c x y)(g:Nat)(b:Array Value)(f:a.eval x=.pointer (some ⟨g,0,none⟩))(i:a.eval y=.agg b)(t:TypeId)(cs:Array Value)(hc:Blk w g t cs)(hs:cs.size=b.size)(hi:(P.info? c).map (·.size)=some b.size)(h1:b.toList.all (·.oneCell')=true)(h:∀w',Blk w' g t b->KO (λk=>k=g) w w'->wpList P ops Q rest (a.put o.dst undef) w'):wpList P ops Q (o::rest) a w:=wpList_plain e λ_ d=>nK c x y ho g b f i t cs hc hs hi h1 λw' h1 h2=>d _ _ (h w' h1 h2)
end
def aX:(Tryz.prog.info? 71).map (·.size)=some 10:=kqk
def Db{o v a b m bin f arr t:Int}{A:Option Addr}{d c:Nat}{i:Nat}{q:Option Addr}:(#[.int .u8 o,.int .i64 v,.int .i64 a,.int .i64 b,.int .i64 m,.int .u8 bin,.slice A d c,.int .i64 f,.int .i64 arr,.int .i64 t]:Array Value)[i]?≠some (.pointer q):=by match i with|0=>simp|1=>simp|2=>simp|3=>simp|4=>simp|5=>simp|6=>simp|7=>simp|8=>simp|9=>simp|i+10=>simp
def dz(w:World)(A:Option Addr)(c:Nat):aD w (.slice A 0 c) []:=⟨A,c,rfl,qqy _,Or.inl rfl⟩
def Rk(has:Bool)(n many:Int)(w:World):Calls Tryz.prog 111 #[.bool has,.int .i64 n,.int .i64 many] w λe w'=>e=.returned (.bool (eH has n many))/\w=w':=by
 unfold eH;cases has;all_goals by_cases h0:0<=n
 all_goals by_cases h1:n<many
 all_goals by_cases h2:n=0
 all_goals go_enter Tryz.func111,Tryz.ntmps111
 all_goals go_wp2_with fail
 all_goals go_ret
 all_goals exact⟨bR (by simp[h0,h1,h2]<;>omega),rfl⟩
def opAt(w:World)(b o:Nat)(k:Nat):Prop:=w.cell? ⟨b,o,none⟩=some (.int .u8 k)
def QL(w:World)(v:Value)(l:List Nat):Prop:=iX 1 opAt w v l
def NW(v:Value)(l:List Nat)(x:Nat)(w:World)(h:QL w v l)(hl:l.length<=1000000):Calls Tryz.prog 178 #[v,.int .u8 x] w λe w'=>(∃n:Int,e=.returned (.int .i64 n)/\(0<=n↔x∈l))/\w=w':=by
 obtain⟨A,c,rfl,hc,h⟩:=h;obtain⟨n,hn⟩:∃n,n=l.length:=⟨_,rfl⟩;rw[<-hn];have H:=hqh h;have j:=hqh hn;have t:=hqh hl;clear h hn hc hl;go_enter Tryz.func178,Tryz.ntmps178;go_wp2_with fail;go_loopg [8]n(λgk v wr=>∃i:Nat,i<=n/\n-i<=gk/\v=.int .i64 i/\wr=w/\Hid (x∉l.take i));case atStart=>exact⟨0,qqy _,qqf _,rfl,rfl,hqh (by simp)⟩
 case round=>
  obtain⟨i,hi,E,rfl,rfl,f⟩:=hrel;by_cases z:i<n;case neg=>have q:decide ((i:Int)<(n:Int))=false:=qqt oqo;go_wp2_with fail;go_ret;refine⟨⟨-1,rfl,⟨λh=>absurd h oqo,λh=>absurd h ?_⟩⟩,rfl⟩;have:=f.o;rwa[jqc (by have:=j.o;omega)]at this
  case pos=>
   have q:decide ((i:Int)<(n:Int))=true:=qqx oqo;have u:i<l.length:=by rw[<-j.o];exact z
   obtain⟨y,d⟩:∃y,l[i]? =some y:=⟨_,qqh u⟩;obtain⟨b,o,rfl,p⟩:∃b o,A=some ⟨b,o,none⟩/\wr.cell? ⟨b,o+i*1,none⟩=some (.int .u8 y):=by
    rcases H.o with rfl|⟨b,o,e,k⟩;·simp at d
    ·exact⟨b,o,e,k i y d⟩
   rw[jzc]at p;have lb:=aB p;have D:=t.o;have m:=hqh d;clear d;by_cases r:x=y;case pos=>
    subst r;have C:((x:Int)==(x:Int))=true:=by simp
    go_wp2_with fail;go_ret;exact⟨⟨i,rfl,⟨λ_=>qqr m.o,λ_=>by omega⟩⟩,rfl⟩
   case neg=>
    have C:((x:Int)==(y:Int))=false:=by simp;omega
    have s:=hqh (show x∉l.take (i+1)by
     rw[jqw,m.o];intro hm;rcases qzu.1 hm with hm|hm;·exact f.o hm
     ·simp at hm;exact r hm);go_wp2_with fail;cases gk with|zero=>omega|succ gk=>
     go_roundg gk;case measure=>omega
     case rel=>exact⟨i+1,by omega,by omega,by simp,rfl,s⟩
def Fu(v:Value)(l:List Nat)(x:Nat)(w:World)(h:QL w v l)(hl:l.length<=1000000):Calls Tryz.prog 148 #[v,.int .u8 x] w λe w'=>e=.returned (.bool (decide (x∈l)))/\w=w':=by
 have hi:=NW v l x w h hl;go_enter Tryz.func148,Tryz.ntmps148;go_wp2_with fail;refine hi.mono ?_;rintro e w1⟨⟨n,rfl,hn⟩,rfl⟩;have b:=hqh hn;clear hn;go_wp2_with fail;all_goals go_ret
 all_goals exact⟨bR (by rw[qzd];simp only[qqu];exact b.o),rfl⟩
def UU(w:World)(t:TypeId)(l:List Nat):QL (w.alloc (.cells (l.map λ(k:Nat)=>Value.int .u8 k).toArray t)) (.slice (some ⟨w.heap.size,0,none⟩) l.length l.length) l:=by refine⟨_,_,rfl,qqf _,Or.inr ⟨_,0,rfl,λi x b=>?_⟩⟩;show World.cell? _ _=_;rw[(Blk.new w t (l.map λ(k:Nat)=>Value.int .u8 k).toArray).cell];simp[b]
def Gv(o:Nat)(w:World):Calls Tryz.prog 113 #[.int .u8 o] w λe w'=>e=.returned (.bool (decide (o∈jw)))/\Below w.heap.size w w':=by go_enter Tryz.func113,Tryz.ntmps113;go_wp2_with fail;refine(Fu _ jw o _ (UU w 37 jw) (by decide)).mono ?_;rintro e w1⟨rfl,rfl⟩;go_wp2_with fail;go_ret;exact⟨rfl,(qjk _ _).alloc (qqf _) _⟩
namespace Ev
def gt(M i:Nat):Nat:=Nat.land (Nat.shiftRight M (Nat.mul 128 i)) 340282366920938463463374607431768211455
def ch(M i n:Nat):Nat:=Nat.land (Nat.shiftRight M (Nat.mul 128 i)) (Nat.sub (Nat.pow 2 (Nat.mul 128 n)) 1)
def up(M i n c:Nat):Nat:=Nat.xor M (Nat.shiftLeft (Nat.xor (ch M i n) c) (Nat.mul 128 i))
def ad(M i c:Nat):Nat:=Nat.lor M (Nat.shiftLeft c (Nat.mul 128 i))
def ug(M i n j:Nat):(ch M i n).testBit j=(decide (j<128*n)&&M.testBit (128*i+j)):=by show((M>>>(128*i))&&&(2^(128*n)-1)).testBit j=_;rw[Nat.testBit_and,Nat.testBit_shiftRight,Nat.testBit_two_pow_sub_one,Bool.and_comm]
def Uz(M i:Nat):gt M i=ch M i 1:=rfl
def jG(M i j:Nat):(gt M i).testBit j=(decide (j<128)&&M.testBit (128*i+j)):=by rw[Uz,ug]
def O8(M i n c j:Nat):(up M i n c).testBit j=(M.testBit j^^(decide (128*i<=j)&&((ch M i n).testBit (j-128*i)^^c.testBit (j-128*i)))):=by show(M^^^((ch M i n^^^c)<<<(128*i))).testBit j=_;rw[Nat.testBit_xor,Nat.testBit_shiftLeft,Nat.testBit_xor]
def Ho(M i c j:Nat):(ad M i c).testBit j=(M.testBit j||(decide (128*i<=j)&&c.testBit (j-128*i))):=by show(M|||(c<<<(128*i))).testBit j=_;rw[Nat.testBit_or,Nat.testBit_shiftLeft]
def jD{M n j:Nat}(h:M<2^n)(hj:n<=j):M.testBit j=false:=Nat.testBit_lt_two_pow (qzj h (Nat.pow_le_pow_right oqo hj))
def mU{M n:Nat}(h:∀j,n<=j->M.testBit j=false):M<2^n:=Nat.lt_pow_two_of_testBit M h
def jT(M i n:Nat):ch M i n<2^(128*n):=mU λj hj=>by rw[ug,qqt oqo];rfl
def Zt(M i:Nat):gt M i<2^128:=jT M i 1
def jW(M i n k:Nat):gt (ch M i n) k=if k<n then gt M (i+k)else 0:=by
 refine jzl λj=>?_;rw[jG,ug];split
 ·rw[jG];by_cases hj:j<128
  ·have:128*k+j<128*n:=by omega
   simp[hj,this,show 128*i+(128*k+j)=128*(i+k)+j from by omega]
  ·simp[hj]
 ·by_cases hj:j<128
  ·have:¬128*k+j<128*n:=by omega
   simp[this]
  ·simp[hj]
def mZ{c n:Nat}(M i k:Nat)(h:c<2^(128*n)):gt (up M i n c) k=if i<=k/\k<i+n then gt c (k-i)else gt M k:=by
 refine jzl λj=>?_;by_cases hj:j<128
 ·rw[jG,O8];split;·rename_i hk;rw[jG,ug];have b:128*i<=128*k+j:=oqo;have d:128*k+j-128*i=128*(k-i)+j:=oqo;have e:128*(k-i)+j<128*n:=oqo;have f:128*i+(128*(k-i)+j)=128*k+j:=oqo;simp[hj,b,d,e,f]
  ·rename_i hk;rw[jG,ug];by_cases b:128*i<=128*k+j
   ·have d:¬128*k+j-128*i<128*n:=by omega
    have e:c.testBit (128*k+j-128*i)=false:=jD h oqo;simp[hj,d,e]
   ·simp[hj,b]
 ·split<;>simp[jG,hj]
def Be{M i n c m:Nat}(e:M<2^(128*m))(hi:i+n<=m)(h:c<2^(128*n)):up M i n c<2^(128*m):=by refine mU λj hj=>?_;rw[O8,jD e hj,ug];have b:¬j-128*i<128*n:=oqo;have d:c.testBit (j-128*i)=false:=jD h oqo;simp[b,d]
def dK{M i:Nat}(c k:Nat)(h:M<2^(128*i)):gt (ad M i c) k=if k<i then gt M k else gt c (k-i):=by
 refine jzl λj=>?_;by_cases hj:j<128
 ·rw[jG,Ho];split;·rw[jG];have b:¬128*i<=128*k+j:=oqo;simp[hj,b]
  ·rw[jG,jD h oqo];have b:128*i<=128*k+j:=oqo;have d:128*k+j-128*i=128*(k-i)+j:=oqo;simp[hj,b,d]
 ·split<;>simp[jG,hj]
def iJ{M i c n:Nat}(b:M<2^(128*i))(h:c<2^(128*n)):ad M i c<2^(128*(i+n)):=by refine mU λj hj=>?_;rw[Ho,jD b oqo,jD h oqo];simp
def YG{M m k:Nat}(h:M<2^(128*m))(hk:m<=k):gt M k=0:=by refine jzl λj=>?_;rw[jG,jD h oqo];simp
def gP{w:Nat}(k:Nat)(h:w<2^128):gt w k=if k=0 then w else 0:=by
 split
 ·rename_i hk;subst hk;refine jzl λj=>?_;rw[jG];by_cases hj:j<128;·simp[hj]
  ·simp[hj,jD h (show 128<=j by omega)]
 ·exact YG (m:=1) (by simpa using h) oqo
def xV(k:Nat):gt 0 k=0:=by refine jzl λj=>?_;rw[jG];simp
def XN{w:Nat}(T d k:Nat)(h:w<2^128):gt (up T d 1 w) k=if k=d then w else gt T k:=by
 rw[mZ T d k (by simpa using h),gP _ h];by_cases hk:k=d;·subst hk;simp
 ·rw[qzc oqo,qzc hk]
def fc{α:Type}(x:Nat)(k:Nat->α):α:=k x
def bX{α:Type}(x:Nat)(k:Nat->α):fc x k=k x:=rfl
end Ev
namespace Ev
def kc:IntKind->Nat| .i8=>0| .i16=>1| .i32=>2| .i64=>3| .u8=>4| .u16=>5| .u32=>6| .u64=>7
def jy(k:IntKind):kc k<8:=by cases k<;>decide
def xu{j k:IntKind}(h:kc j=kc k):j=k:=by cases j<;>cases k<;>first|rfl|(exact absurd h (by decide))
def ou(b:Bool):Nat:=Bool.rec 1 17 b
def ay(k:IntKind)(n:Int):Nat:=2+16*kc k+256*(n+9223372036854775808).toNat
def dE(st l:Nat):Nat:=3+16*l+268435456*st
def dU(s z o:Nat):Nat:=5+16*s+268435456*z+4503599627370496*o
def bF(s z l e o:Nat):Nat:=7+16*s+268435456*z+4503599627370496*l+75557863725914323419136*e+19342813113834066795298816*o
def iP(s:Nat):Nat:=8+16*s
def fe(f m n s:Nat):Nat:=10+16*f+1048576*m+268435456*n+68719476736*s
def ig(f:Nat):Nat:=15+16*f
def jb(t s:Nat):Nat:=11+16*t+68719476736*s
def dY(st n:Nat):Nat:=12+16*n+268435456*st
def ja(j:Nat):Nat:=16+16*j
def fJ(st n:Nat):Nat:=13+16*n+268435456*st
inductive Info where|free|cells(blk base size room:Nat)|row(ws:List Nat)|map(blk:Nat)
structure Gh where
 rho:Nat->Info
 S:Nat
 nS:Nat
 rh:Nat->Value:=λ_=>undef
def aH(S i:Nat):Nat:=Nat.land (Nat.shiftRight S (Nat.mul 8 i)) 255
def strOf(S st l:Nat):ByteArray:=⟨((List.range l).map λi=>UInt8.ofNat (aH S (st+i))).toArray⟩
structure Gh.le(g g':Gh):Prop where
 rho:∀s,g.rho s≠.free->g'.rho s=g.rho s
 nS:g.nS<=g'.nS
 byte:∀i,i<g.nS->aH g'.S i=aH g.S i
 rh:g'.rh=g.rh
def Gh.le.refl(g:Gh):g.le g:=⟨λ_ _=>rfl,qqf _,λ_ _=>rfl,rfl⟩
def Gh.le.trans{a b c:Gh}(h:a.le b)(k:b.le c):a.le c:=⟨λs hs=>by rw[k.rho s (by rw[h.rho s hs];exact hs),h.rho s hs],qzi h.nS k.nS,λi hi=>(k.byte i (qzj hi h.nS)).trans (h.byte i hi),k.rh.trans h.rh⟩
def zg{g g':Gh}(h:g.le g'){st l:Nat}(b:st+l<=g.nS):strOf g'.S st l=strOf g.S st l:=by unfold strOf;congr 2;refine jqj λi hi=>?_;rw[h.byte _ (by have:=qzg.1 hi;omega)]
inductive VR(g:Gh):Nat->Value->Prop|unk(v:Value)(h:v.oneCell'=true):VR g 0 v|sym(j:Nat)(hj:j<16777216)(h:(g.rh j).oneCell'=true):VR g (ja j) (g.rh j)|bool(b:Bool):VR g (ou b) (.bool b)|int(k:IntKind)(n:Int)(h1: -9223372036854775808<=n)(h2:n<18446744073709551616):VR g (ay k n) (.int k n)|str(st l:Nat)(h1:l<16777216)(h2:st+l<=g.nS)(h3:st<4294967296):VR g (dE st l) (.string (strOf g.S st l))|pnil:VR g 4 (.pointer none)| ptr(s z o blk base room:Nat)(hs:s<16777216)(hz:z<16777216)(h:g.rho s=.cells blk base z room)(ho:o<=z):VR g (dU s z o) (.pointer (some ⟨blk,base+o,none⟩))|snil:VR g 6 (.slice none 0 0)| sli(s z l e o blk base room cap:Nat)(a:Addr)(hs:s<16777216)(hz:z<16777216)(hl:l<16777216)(he:e<256)(h:g.rho s=.cells blk base z room)(ho:o+l*e<=z)(hc:l<=cap)(ha:cap=0\/(a=⟨blk,base+o,none⟩/\o+cap*e<=room)):VR g (bF s z l e o) (.slice (some a) l cap)|semp(a:Addr):VR g 57 (.slice (some a) 0 0)|mnil:VR g 9 (.map none)|map(s blk:Nat)(hs:s<16777216)(h:g.rho s=.map blk):VR g (iP s) (.map (some blk))|fnil:VR g 25 .nilFunc|inil:VR g 41 .nilIface| func(f m n s:Nat)(ws:List Nat)(first cap:Array Value)(hf:f<65536)(hm:m<256)(hn:n<256)(hs:s<16777216)(h:g.rho s=.row ws)(hm':first.size=m)(hn':cap.size=n)(hw:ws.length=m+n)(h1:∀i,i<m->VR g (ws.getD i 0) (first.getD i undef))(h2:∀i,i<n->VR g (ws.getD (m+i) 0) (cap.getD i undef)):VR g (fe f m n s) (.func (.func f) first cap)|fn0(f:Nat)(hf:f<65536):VR g (ig f) (.func (.func f) #[] #[])|ifc(t s w:Nat)(v:Value)(ht:t<1048576)(hs:s<16777216)(h:g.rho s=.row [w])(hv:VR g w v)(h0:w≠0):VR g (jb t s) (.iface t v)
def VR.mono{g g':Gh}(h:g.le g'){w:Nat}{v:Value}(hv:VR g w v):VR g' w v:=by induction hv with|unk v h=>exact .unk v h|sym j hj ho=>rw[<-h.rh];exact .sym j hj (by rw[h.rh];exact ho)|bool b=>exact .bool b|int k n h1 h2=>exact .int k n h1 h2|str st l h1 h2 h3=>rw[<-zg h h2];exact .str st l h1 (qzi h2 h.nS) h3|pnil=>exact .pnil|ptr s z o blk base room hs hz hr ho=>exact .ptr s z o blk base room hs hz (by rw[h.rho s (by rw[hr];simp),hr]) ho|snil=>exact .snil|sli s z l e o blk base room cap a hs hz hl he hr ho hc ha=>exact .sli s z l e o blk base room cap a hs hz hl he (by rw[h.rho s (by rw[hr];simp),hr]) ho hc ha|semp a=>exact .semp a|mnil=>exact .mnil|map s blk hs hr=>exact .map s blk hs (by rw[h.rho s (by rw[hr];simp),hr])|fnil=>exact .fnil|inil=>exact .inil|func f m n s ws first cap hf hm hn hs hr hm' hn' hw _ _ c i2=>exact .func f m n s ws first cap hf hm hn hs (by rw[h.rho s (by rw[hr];simp),hr]) hm' hn' hw c i2|fn0 f hf=>exact .fn0 f hf|ifc t s w v ht hs hr _ h0 ih=>exact .ifc t s w v ht hs (by rw[h.rho s (by rw[hr];simp),hr]) ih h0
def VR.lt{g:Gh}{w:Nat}{v:Value}(hv:VR g w v):w<2^128:=by cases hv with|unk=>decide|sym j hj=>unfold ja;omega|bool b=>cases b<;>decide|int k n h1 h2=>have:=jy k;unfold ay;omega|str st l h1 h2 h3=>unfold dE;omega|ptr s z o _ _ _ hs hz _ ho=>unfold dU;omega|sli s z l e o _ _ _ _ _ hs hz hl he _ ho=>have:o<=z:=qzi (Nat.le_add_right _ _) ho;unfold bF;omega|map s _ hs=>unfold iP;omega|func f m n s _ _ _ hf hm hn hs=>unfold fe;omega|fn0 f hf=>unfold ig;omega|ifc t s _ _ ht hs=>unfold jb;omega|_=>decide
section
variable {g:Gh}{w:Nat}{v:Value}
def VR.iC(hv:VR g w v)(h:w%16=1):∃b,w=ou b/\v=.bool b:=by cases hv<;>first|exact⟨_,rfl,rfl⟩|(exfalso;(try simp only[ay,dE,dU,bF,iP,fe,jb,ig,ja]at h);omega)
def VR.jB(hv:VR g w v)(h:w%16=2):∃k n,w=ay k n/\v=.int k n/\-9223372036854775808<=n/\n<18446744073709551616:=by cases hv<;>first|exact⟨_,_,rfl,rfl,‹_›,‹_›⟩|(exfalso;(try simp only[dE,dU,bF,iP,fe,jb,ig,ja]at h);omega)|(rename_i b;cases b<;>exact absurd h (by decide))
def VR.sZ(hv:VR g w v)(h:w%16=3):∃st l,w=dE st l/\v=.string (strOf g.S st l)/\l<16777216/\st+l<=g.nS/\st<4294967296:=by cases hv<;>first|exact⟨_,_,rfl,rfl,‹_›,‹_›,‹_›⟩|(exfalso;(try simp only[ay,dU,bF,iP,fe,jb,ig,ja]at h);omega)|(rename_i b;cases b<;>exact absurd h (by decide))
def VR.ES(hv:VR g w v)(h:w%16=4):v=.pointer none:=by cases hv<;>first|rfl|(exfalso;(try simp only[ay,dE,dU,bF,iP,fe,jb,ig,ja]at h);omega)|(rename_i b;cases b<;>exact absurd h (by decide))
def VR.Jo(hv:VR g w v)(h:w%16=5):∃s z o blk base room,w=dU s z o/\v=.pointer (some ⟨blk,base+o,none⟩)/\s<16777216/\z<16777216/\g.rho s=.cells blk base z room/\o<=z:=by cases hv<;>first|exact⟨_,_,_,_,_,_,rfl,rfl,‹_›,‹_›,‹_›,‹_›⟩|(exfalso;(try simp only[ay,dE,bF,iP,fe,jb,ig,ja]at h);omega)|(rename_i b;cases b<;>exact absurd h (by decide))
def VR.zx(hv:VR g w v)(h:w%16=6):v=.slice none 0 0:=by cases hv<;>first|rfl|(exfalso;(try simp only[ay,dE,dU,bF,iP,fe,jb,ig,ja]at h);omega)|(rename_i b;cases b<;>exact absurd h (by decide))
def VR.BH(hv:VR g w v)(h:w%16=7):∃s z l e o blk base room cap a,w=bF s z l e o/\v=.slice (some a) l cap/\s<16777216/\z<16777216/\l<16777216/\e<256/\g.rho s=.cells blk base z room/\o+l*e<=z/\l<=cap/\(cap=0\/(a=⟨blk,base+o,none⟩/\o+cap*e<=room)):=by cases hv<;>first|exact⟨_,_,_,_,_,_,_,_,_,_,rfl,rfl,‹_›,‹_›,‹_›,‹_›,‹_›,‹_›,‹_›,‹_›⟩|(exfalso;(try simp only[ay,dE,dU,iP,fe,jb,ig,ja]at h);omega)|(rename_i b;cases b<;>exact absurd h (by decide))
def VR.Cc(hv:VR g w v)(h:w%16=8):∃s blk,w=iP s/\v=.map (some blk)/\s<16777216/\g.rho s=.map blk:=by cases hv<;>first|exact⟨_,_,rfl,rfl,‹_›,‹_›⟩|(exfalso;(try simp only[ay,dE,dU,bF,fe,jb,ig,ja]at h);omega)|(rename_i b;cases b<;>exact absurd h (by decide))
def VR.yT(hv:VR g w v)(h:w=57):∃a,v=.slice (some a) 0 0:=by cases hv<;>first|exact⟨_,rfl⟩|(exfalso;(try simp only[ay,dE,dU,bF,iP,fe,jb,ig,ja]at h);omega)|(rename_i b;cases b<;>exact absurd h (by decide))
def VR.Ey(hv:VR g w v)(h:w=9):v=.map none:=by cases hv<;>first|rfl|(exfalso;(try simp only[ay,dE,dU,bF,iP,fe,jb,ig,ja]at h);omega)|(rename_i b;cases b<;>exact absurd h (by decide))
def VR.Fp(hv:VR g w v)(h:w=25):v=.nilFunc:=by cases hv<;>first|rfl|(exfalso;(try simp only[ay,dE,dU,bF,iP,fe,jb,ig,ja]at h);omega)|(rename_i b;cases b<;>exact absurd h (by decide))
def VR.EE(hv:VR g w v)(h:w=41):v=.nilIface:=by cases hv<;>first|rfl|(exfalso;(try simp only[ay,dE,dU,bF,iP,fe,jb,ig,ja]at h);omega)|(rename_i b;cases b<;>exact absurd h (by decide))
def VR.om(hv:VR g w v)(h:w%16=10):∃f m n s ws first cap,w=fe f m n s/\v=.func (.func f) first cap/\f<65536/\m<256/\n<256/\s<16777216/\g.rho s=.row ws/\first.size=m/\cap.size=n/\ws.length=m+n/\(∀i,i<m->VR g (ws.getD i 0) (first.getD i undef))/\(∀i,i<n->VR g (ws.getD (m+i) 0) (cap.getD i undef)):=by cases hv<;>first|exact⟨_,_,_,_,_,_,_,rfl,rfl,‹_›,‹_›,‹_›,‹_›,‹_›,‹_›,‹_›,‹_›,‹_›,‹_›⟩|(exfalso;(try simp only[ay,dE,dU,bF,iP,jb,ig,ja]at h);omega)|(rename_i b;cases b<;>exact absurd h (by decide))
def VR.Jk(hv:VR g w v)(h:w%16=11):∃t s u x,w=jb t s/\v=.iface t x/\t<1048576/\s<16777216/\g.rho s=.row [u]/\VR g u x/\u≠0:=by cases hv<;>first|exact⟨_,_,_,_,rfl,rfl,‹_›,‹_›,‹_›,‹_›,‹_›⟩|(exfalso;(try simp only[ay,dE,dU,bF,iP,fe,ig,ja]at h);omega)|(rename_i b;cases b<;>exact absurd h (by decide))
def VR.one(hv:VR g w v):v.oneCell'=true:=by cases hv<;>first|assumption|rfl
def VR.tq(hv:VR g w v)(h:w%16=15):∃f,w=ig f/\v=.func (.func f) #[] #[]/\f<65536:=by cases hv<;>first|exact⟨_,rfl,rfl,‹_›⟩|(exfalso;(try simp only[ay,dE,dU,bF,iP,fe,jb,ja]at h);omega)|(rename_i b;cases b<;>exact absurd h (by decide))
def VR.UR(hv:VR g w v)(h:w%16=0)(h0:w≠0):∃j,w=ja j/\v=g.rh j/\j<16777216/\(g.rh j).oneCell'=true:=by cases hv<;>first|exact⟨_,rfl,rfl,‹_›,‹_›⟩|(exfalso;(try simp only[ay,dE,dU,bF,iP,fe,jb,ig]at h);omega)|(rename_i b;cases b<;>exact absurd h (by decide))|(exact absurd rfl h0)
def VR.tag(hv:VR g w v):w%16≠12/\w%16≠13/\w%16≠14:=by cases hv<;>first|((try simp only[ay,dE,dU,bF,iP,fe,jb,ig,ja]);omega)|(rename_i b;cases b<;>decide)
end
inductive TR(g:Gh)(R nR:Nat):Nat->Value->Prop|unk(v:Value):TR g R nR 0 v|und:TR g R nR 14 undef|cell(w:Nat)(v:Value)(h:VR g w v):TR g R nR w v| agg(st n:Nat)(vs:Array Value)(hn:n<16777216)(hs:st<4294967296)(h:st+n<=nR)(hv:vs.size=n)(hc:∀i,i<n->VR g (gt R (st+i)) (vs.getD i undef)):TR g R nR (dY st n) (.agg vs)| tup(st n:Nat)(vs:Array Value)(hn:n<16777216)(hs:st<4294967296)(h:st+n<=nR)(hv:vs.size=n)(hc:∀i,i<n->TR g R nR (gt R (st+i)) (vs.getD i undef)):TR g R nR (fJ st n) (.tuple vs)
def Ext(R nR b c:Nat):Prop:=nR<=c/\∀i,i<nR->gt b i=gt R i
def Ext.refl(R nR:Nat):Ext R nR R nR:=⟨qqf _,λ_ _=>rfl⟩
def Ext.trans{A a B b C c:Nat}(h:Ext A a B b)(k:Ext B b C c):Ext A a C c:=⟨qzi h.1 k.1,λi hi=>(k.2 i (qzj hi h.1)).trans (h.2 i hi)⟩
def Ext.ad{R nR:Nat}(n c:Nat)(h:R<2^(128*nR)):Ext R nR (ad R nR c) (nR+n):=⟨by omega,λi hi=>by rw[dK _ _ h,qzb hi]⟩
def TR.mono{g g':Gh}{R nR c d:Nat}(h:g.le g')(hr:Ext R nR c d){w:Nat}{v:Value}(hv:TR g R nR w v):TR g' c d w v:=by induction hv with|unk v=>exact .unk v|und=>exact .und|cell w v hv=>exact .cell w v (hv.mono h)|agg st n vs hn hs b hv hc=>exact .agg st n vs hn hs (qzi b hr.1) hv λi hi=>by rw[hr.2 _ oqo];exact(hc i hi).mono h|tup st n vs hn hs b hv _ ih=>exact .tup st n vs hn hs (qzi b hr.1) hv λi hi=>by rw[hr.2 _ oqo];exact ih i hi
def TR.lt{g:Gh}{R nR w:Nat}{v:Value}(hv:TR g R nR w v):w<2^128:=by cases hv with|unk=>decide|und=>decide|cell _ _ h=>exact h.lt|agg st n _ hn hs=>unfold dY;omega|tup st n _ hn hs=>unfold fJ;omega
def TR.aM{g:Gh}{R nR w:Nat}{v:Value}(hv:TR g R nR w v)(h:w%16≠12)(h1:w%16≠13)(h2:w%16≠14)(h0:w≠0):VR g w v:=by cases hv with|unk=>exact absurd rfl h0|und=>exact absurd rfl h2|cell _ _ h=>exact h|agg st n=>exfalso;simp only[dY]at h;omega|tup st n=>exfalso;simp only[fJ]at h1;omega
def TR.Cx{g:Gh}{R nR w:Nat}{v:Value}(hv:TR g R nR w v)(h:w%16=12):∃st n vs,w=dY st n/\v=.agg vs/\n<16777216/\st<4294967296/\st+n<=nR/\vs.size=n/\ ∀i,i<n->VR g (gt R (st+i)) (vs.getD i undef):=by cases hv with|unk=>omega|und=>omega|cell _ _ hv=>have:=hv.tag;omega|agg st n vs hn hs b hv hc=>exact⟨st,n,vs,rfl,rfl,hn,hs,b,hv,hc⟩|tup st n=>exfalso;simp only[fJ]at h;omega
def TR.um{g:Gh}{R nR w:Nat}{v:Value}(hv:TR g R nR w v)(h:w%16=13):∃st n vs,w=fJ st n/\v=.tuple vs/\n<16777216/\st<4294967296/\st+n<=nR/\vs.size=n/\ ∀i,i<n->TR g R nR (gt R (st+i)) (vs.getD i undef):=by cases hv with|unk=>omega|und=>omega|cell _ _ hv=>have:=hv.tag;omega|agg st n=>exfalso;simp only[dY]at h;omega|tup st n vs hn hs b hv hc=>exact⟨st,n,vs,rfl,rfl,hn,hs,b,hv,hc⟩
end Ev
namespace Ev
structure St where
 T:Nat
 D:List (Nat×List Nat)R:Nat
 nR:Nat
 M:Nat
 nM:Nat
 S:Nat
 nS:Nat
@[reducible] def setM (M nM:Nat) (st:St):St:=St.rec (fun T D R nR _ _ S nS=>⟨T,D,R,nR,M,nM,S,nS⟩) st
@[reducible] def setR (R nR:Nat) (st:St):St:=St.rec (fun T D _ _ M nM S nS=>⟨T,D,R,nR,M,nM,S,nS⟩) st
@[reducible] def setS (S nS:Nat) (st:St):St:=St.rec (fun T D R nR M nM _ _=>⟨T,D,R,nR,M,nM,S,nS⟩) st
@[reducible] def setD (D:List (Nat×List Nat)) (st:St):St:=St.rec (fun T _ R nR M nM S nS=>⟨T,D,R,nR,M,nM,S,nS⟩) st
def Info.size:Info->Nat| .free=>0| .cells _ _ z _=>z| .row ws=>ws.length| .map _=>1
def eMp(c nv s:Nat):Nat:=14+16*c+268435456*nv+68719476736*s
def xq(g:Gh)(ws:List Nat)(b nv:Nat)(v:Value):Prop:=if nv=0 then VR g (ws.getD b 0) v else∃vs:Array Value,v=.agg vs/\vs.size=nv/\∀i,i<nv->VR g (ws.getD (b+i) 0) (vs.getD i undef)
def stride(nv:Nat):Nat:=if nv=0 then 2 else nv+1
def lL(g:Gh)(m:Nat)(o:Obj):Prop:= ∃c nv s ws b d,m=eMp c nv s/\c<16777216/\nv<256/\s<16777216/\g.rho s=.row ws/\o=.map b d/\b.size=c/\ws.length=c*stride nv/\ ∀i(h:i<b.size),VR g (ws.getD (i*stride nv) 0) b[i].key/\xq g ws (i*stride nv+1) nv b[i].val
def Own(g:Gh)(b:Nat):Prop:=(∃s base z room,g.rho s=.cells b base z room)\/∃s,g.rho s=.map b
def Live(M s z:Nat):Prop:=∃o,o<z/\gt M (s+o)≠0
def ry(fr:Nat×Nat)(n:Nat):Prop:=fr.1=fr.2\/n<=fr.1
structure rU(g:Gh)(M:Nat)(w:World)(s blk base z room:Nat)(c:Array Value)(e:TypeId)(fr:Nat×Nat):Prop where
 heap:w.heap[blk]? =some (.cells c e fr)size:c.size=base+room
 room:z<=room
 one:∀i,i<c.size->(c.getD i undef).oneCell'=true
 vr:∀o,o<z->VR g (gt M (s+o)) (c.getD (base+o) undef)thaw:Live M s z->ry fr c.size
structure HR(g:Gh)(st:St)(w:World):Prop where
 S:st.S=g.S
 nS:st.nS=g.nS
 Slt:st.S<2^(8*st.nS)Mlt:st.M<2^(128*st.nM)Rlt:st.R<2^(128*st.nR)top:∀s,g.rho s≠.free->s+(g.rho s).size<st.nM
 jR:∀s s',s<s'->g.rho s≠.free->g.rho s'≠.free->s+(g.rho s).size<s'
 cells:∀s blk base z room,g.rho s=.cells blk base z room->∃c e fr,rU g st.M w s blk base z room c e fr
 rows:∀s ws,g.rho s=.row ws->∀i,i<ws.length->gt st.M (s+i)=ws.getD i 0
 maps:∀s blk,g.rho s=.map blk->∃o,w.heap[blk]? =some o/\lL g (gt st.M s) o
 inj:∀s s' blk base z room base' z' room',s≠s'->g.rho s=.cells blk base z room->g.rho s'=.cells blk base' z' room'->Live st.M s z->¬Live st.M s' z'
 pK:∀s s' blk,g.rho s=.map blk->g.rho s'=.map blk->s=s'
structure Fr(g:Gh)(w:World)(g':Gh)(w':World):Prop where
 os:w'.os=w.os
 tape:w'.tape=w.tape
 output:w'.output=w.output
 size:w.heap.size<=w'.heap.size
 le:g.le g'
 keep:∀b,b<w.heap.size->¬Own g b->w'.heap[b]? =w.heap[b]?
 own:∀b,b<w.heap.size->Own g' b->Own g b
def Fr.refl(g:Gh)(w:World):Fr g w g w:=⟨rfl,rfl,rfl,qqf _,Gh.le.refl _,λ_ _ _=>rfl,λ_ _ h=>h⟩
def Fr.trans{g g1 g2:Gh}{w w1 d:World}(h:Fr g w g1 w1)(k:Fr g1 w1 g2 d):Fr g w g2 d:=⟨k.os.trans h.os,k.tape.trans h.tape,k.output.trans h.output,qzi h.size k.size,h.le.trans k.le,λb c ho=>(k.keep b (qzj c h.size) (λo=>ho (h.own b c o))).trans (h.keep b c ho),λb c ho=>h.own b c (k.own b (qzj c h.size) ho)⟩
def rU.congr{g:Gh}{M:Nat}{w w':World}(e:w'.heap=w.heap){s blk base z room:Nat}{c:Array Value}{t:TypeId}{fr:Nat×Nat}(h:rU g M w s blk base z room c t fr):rU g M w' s blk base z room c t fr:=⟨by rw[e];exact h.heap,h.size,h.room,h.one,h.vr,h.thaw⟩
def HR.congr{g:Gh}{st:St}{w w':World}(e:w'.heap=w.heap)(h:HR g st w):HR g st w':=⟨h.S,h.nS,h.Slt,h.Mlt,h.Rlt,h.top,h.jR,λs blk base z room hs=>let⟨c,t,fr,hc⟩:=h.cells s blk base z room hs;⟨c,t,fr,hc.congr e⟩,h.rows,λs blk hs=>by rw[e];exact h.maps s blk hs,h.inj,h.pK⟩
def HR.drew{g:Gh}{st:St}{w:World}(h:HR g st w)(n:Nat):HR g st {w with drawn:=n}:=HR.congr (w:=w) rfl h
def Fr.drew(g:Gh)(w:World)(n:Nat):Fr g w g {w with drawn:=n}:=⟨rfl,rfl,rfl,qqf _,Gh.le.refl _,λ_ _ _=>rfl,λ_ _ h=>h⟩
def HR.frame{g:Gh}{st:St}{w:World}(h:HR g st w)(T:Nat)(D:List (Nat×List Nat)){R nR:Nat}(b:R<2^(128*nR)):HR g {st with T:=T,D:=D,R:=R,nR:=nR} w:=⟨h.S,h.nS,h.Slt,h.Mlt,b,h.top,h.jR,h.cells,h.rows,h.maps,h.inj,h.pK⟩
def Ak{g:Gh}{st:St}{w:World}(h:HR g st w){b:Nat}(o:Own g b):b<w.heap.size:=by
 rcases o with⟨s,base,z,room,hs⟩|⟨s,hs⟩;·obtain⟨c,e,fr,hc⟩:=h.cells s b base z room hs;exact(qqs.1 hc.heap).1
 ·obtain⟨o,ho,_⟩:=h.maps s b hs;exact(qqs.1 ho).1
def j6{g:Gh}{st:St}{w:World}(h:HR g st w){s:Nat}(hs:st.nM<=s):g.rho s=.free:=by cases hr:g.rho s with|free=>rfl|_=>have:=h.top s (by rw[hr];simp);omega
def lL.mono{g g':Gh}(h:g.le g'){m:Nat}{o:Obj}(k:lL g m o):lL g' m o:=by
 obtain⟨c,nv,s,ws,es,clock,h1,h2,h3,p,b,q,r,t,d⟩:=k;refine⟨c,nv,s,ws,es,clock,h1,h2,h3,p,by rw[h.rho s (by rw[b];simp),b],q,r,t,λi hi=>⟨(d i hi).1.mono h,?_⟩⟩;have:=(d i hi).2;unfold xq at*;split;·rename_i h0;rw[qzb h0]at this;exact this.mono h
 ·rename_i h0;rw[qzc h0]at this;obtain⟨vs,e,f,l⟩:=this;exact⟨vs,e,f,λj hj=>(l j hj).mono h⟩
def Gh.put(g:Gh)(s:Nat)(i:Info):Gh:={g with rho:=λt=>if t=s then i else g.rho t}
def Gh.bK(g:Gh)(s:Nat)(i:Info)(t:Nat):(g.put s i).rho t=if t=s then i else g.rho t:=rfl
def Gh.nH{g:Gh}{s:Nat}(i:Info)(h:g.rho s=.free):g.le (g.put s i):=⟨λt ht=>by rw[Gh.bK,qzc (λ(e:t=s)=>ht (by rw[e];exact h))],qqf _,λ_ _=>rfl,rfl⟩
def yj{M n s z:Nat}(c:Nat)(b:M<2^(128*n))(h:s+z<=n):Live (ad M n c) s z↔Live M s z:=by
 constructor<;>rintro⟨o,ho,d⟩<;>refine⟨o,ho,?_⟩;·rwa[dK _ _ b,qzb oqo]at d
 ·rwa[dK _ _ b,qzb oqo]
section
variable {g:Gh}{st:St}{w:World}
def HR.grown(h:HR g st w){i:Info}{cw:Nat}(y:cw<2^(128*(i.size+1))){w':World}(_hi:i≠.free)(hold:∀s blk base z room c e fr,g.rho s=.cells blk base z room->rU g st.M w s blk base z room c e fr->∃f d fr',w'.heap[blk]? =some (.cells f d fr')/\f.size=c.size/\(∀i,i<f.size->(f.getD i undef).oneCell'=true)/\(Live st.M s z->f=c/\fr'=fr))(C:∀s blk,g.rho s=.map blk->w'.heap[blk]? =w.heap[blk]?)(m:∀blk base z room,i=.cells blk base z room->(∃c e fr,rU (g.put st.nM i) (ad st.M st.nM cw) w' st.nM blk base z room c e fr)/\∀s base' z' room',g.rho s=.cells blk base' z' room'->¬Live st.M s z')(E:∀ws,i=.row ws->∀j,j<ws.length->gt cw j=ws.getD j 0)(hm:∀blk,i=.map blk->(∃o,w'.heap[blk]? =some o/\lL (g.put st.nM i) (gt cw 0) o)/\∀s,g.rho s≠.map blk):HR (g.put st.nM i) {st with M:=ad st.M st.nM cw,nM:=st.nM+i.size+1} w':=by
 have q:g.rho st.nM=.free:=j6 h (qqf _);have hle:=Gh.nH i q;have G:∀s,g.rho s≠.free->s≠st.nM:=λs hs e=>hs (e▸q);have p:∀s,g.rho s≠.free->∀o,o<=(g.rho s).size->gt (ad st.M st.nM cw) (s+o)=gt st.M (s+o):=λs hs o ho=>by have:=h.top s hs;rw[dK _ _ h.Mlt,qzb oqo]
 refine⟨h.S,h.nS,h.Slt,by have:=iJ h.Mlt y;rwa[<-jqu]at this,h.Rlt,?_,?_,?_,?_,?_,?_,?_⟩
 ·intro s hs;rw[Gh.bK]at hs⊢;split;·rename_i e;subst e;dsimp only;omega
  ·rename_i e;rw[qzc e]at hs;have:=h.top s hs;dsimp only;omega
 ·intro s s' A hs b;rw[Gh.bK]at hs b⊢;by_cases e:s=st.nM;·subst e;rw[qzc oqo]at b;have:=h.top s' b;omega
  ·rw[qzc e]at hs⊢;by_cases d:s'=st.nM;·subst d;exact h.top s hs
   ·rw[qzc d]at b;exact h.jR s s' A hs b
 ·intro s blk base z room hs;rw[Gh.bK]at hs;by_cases e:s=st.nM;·subst e;rw[qzb rfl]at hs;exact(m _ _ _ _ hs).1
  ·rw[qzc e]at hs;obtain⟨c,t,fr,hc⟩:=h.cells s blk base z room hs;obtain⟨f,F,fr',h1,h2,h3,l⟩:=hold s blk base z room c t fr hs hc;have ht:=h.top s (by rw[hs];simp);rw[hs]at ht;refine⟨f,F,fr',h1,by rw[h2,hc.size],hc.room,h3,λo ho=>?_,λhl=>?_⟩
   ·rw[p s (by rw[hs];simp) o (by rw[hs];exact qzs ho)];by_cases hz:gt st.M (s+o)=0;·rw[hz];exact .unk _ (h3 _ (by rw[h2,hc.size];have:=hc.room;omega))
    ·rw[(l ⟨o,ho,hz⟩).1];exact(hc.vr o ho).mono hle
   ·have k:=(yj cw h.Mlt (qzs ht)).1 hl;rw[(l k).1,(l k).2];exact hc.thaw k
 ·intro s ws hs j hj;rw[Gh.bK]at hs;by_cases e:s=st.nM;·subst e;rw[qzb rfl]at hs;rw[dK _ _ h.Mlt,qzc oqo,show st.nM+j-st.nM=j by omega];exact E ws hs j hj
  ·rw[qzc e]at hs;rw[p s (by rw[hs];simp) j (by rw[hs];exact qzs hj)];exact h.rows s ws hs j hj
 ·intro s blk hs;rw[Gh.bK]at hs;by_cases e:s=st.nM;·subst e;rw[qzb rfl]at hs;rw[dK _ _ h.Mlt,qzc oqo,jzg];exact(hm blk hs).1
  ·rw[qzc e]at hs;obtain⟨o,ho,D⟩:=h.maps s blk hs;refine⟨o,by rw[C s blk hs];exact ho,?_⟩;have:=p s (by rw[hs];simp) 0 oqo;rw[qzz]at this;rw[this];exact D.mono hle
 ·intro s s' blk base z room base' z' room' r hs b hl k;rw[Gh.bK]at hs b;by_cases e:s=st.nM;·subst e;rw[qzc (Ne.symm r)]at b;rw[qzb rfl]at hs;have ht:=h.top s' (by rw[b];simp);rw[b]at ht;exact(m _ _ _ _ hs).2 _ _ _ _ b ((yj cw h.Mlt (qzs ht)).1 k)
  ·rw[qzc e]at hs;have ht:=h.top s (by rw[hs];simp);rw[hs]at ht;have x:=(yj cw h.Mlt (qzs ht)).1 hl;by_cases d:s'=st.nM;·subst d;rw[qzb rfl]at b;exact(m _ _ _ _ b).2 _ _ _ _ hs x
   ·rw[qzc d]at b;have u:=h.top s' (by rw[b];simp);rw[b]at u;exact h.inj s s' blk base z room base' z' room' r hs b x ((yj cw h.Mlt (qzs u)).1 k)
 ·intro s s' blk hs b;rw[Gh.bK]at hs b;by_cases e:s=st.nM
  ·subst e;rw[qzb rfl]at hs;by_cases d:s'=st.nM;·exact d.symm
   ·rw[qzc d]at b;exact absurd b ((hm blk hs).2 s')
  ·rw[qzc e]at hs;by_cases d:s'=st.nM;·subst d;rw[qzb rfl]at b;exact absurd hs ((hm blk b).2 s)
   ·rw[qzc d]at b;exact h.pK s s' blk hs b
def HR.load(h:HR g st w){s blk base z room o:Nat}(hr:g.rho s=.cells blk base z room)(ho:o<z):∃v,w.cell? ⟨blk,base+o,none⟩=some v/\VR g (gt st.M (s+o)) v:=by
 obtain⟨c,t,fr,hc⟩:=h.cells s blk base z room hr;have b:base+o<c.size:=by have:=hc.size;have:=hc.room;omega
 refine⟨c[base+o],by simp[World.cell?,hc.heap,b],?_⟩;have:=hc.vr o ho;rwa[qqg,jqi b,qzm]at this
end
end Ev
