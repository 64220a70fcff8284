/- Joint text: OBlk, ORow, HOneA, EvA, EvB, EvC, EvD. By an AI agent. -/
import Derived.Test.YtgdibfnpkcdiiaaGreatDoorRzy
import Derived.Test.YtgdibfnpkcdiiaaGreatDoorR04
import Derived.Deep.MidRow
import Derived.Laws.Tables
import Derived.Calls
import Derived.Laws.Sem
import Derived.Lib.FrozenHead
import Derived.Laws.Cells
import Derived.Laws.NewFold
set_option linter.all false
set_option maxRecDepth 100000
set_option maxHeartbeats 64000000
noncomputable section
namespace Go.Proofs.YtgdibfnpkcdiiaaGreatDoor
open Go.RowKit Go.Maps
structure KO(O:Nat->Prop)(w w':World):Prop where
 os:w'.os=w.os
 tape:w'.tape=w.tape
 output:w'.output=w.output
 size:w.heap.size<=w'.heap.size
 block:∀k,k<w.heap.size->¬O k->w'.heap[k]? =w.heap[k]?
section
variable {O O':Nat->Prop}{w w' w'':World}
theorem KO.refl(O:Nat->Prop)(w:World):KO O w w:=⟨rfl,rfl,rfl,qqf _,λ_ _ _=>rfl⟩
theorem KO.trans(h:KO O w w')(k:KO O w' w''):KO O w w'':=⟨k.os.trans h.os,k.tape.trans h.tape,k.output.trans h.output,qzi h.size k.size,λi hi hn=>(k.block i (qzj hi h.size) hn).trans (h.block i hi hn)⟩
theorem KO.then'(h:KO O w w')(k:KO O' w' w'')(hs:∀i,i<w.heap.size->O' i->O i):KO O w w'':=⟨k.os.trans h.os,k.tape.trans h.tape,k.output.trans h.output,qzi h.size k.size,λi hi hn=>(k.block i (qzj hi h.size) (λc=>hn (hs i hi c))).trans (h.block i hi hn)⟩
theorem KO.weak(h:KO O w w')(hs:∀i,O i->O' i):KO O' w w':=⟨h.os,h.tape,h.output,h.size,λi hi hn=>h.block i hi λc=>hn (hs i c)⟩
theorem KO.below(h:Below w.heap.size w w'):KO O w w':=⟨h.os,h.tape,h.output,h.size,λi hi _=>h.block i hi⟩
theorem KO.aM(h:KO O w w'){n:Nat}(hn:n<=w.heap.size)(b:∀i,O i->n<=i):Below n w w':=⟨h.os,h.tape,h.output,h.size,λi hi=>h.block i oqo λc=>by have:=b i c;omega⟩
theorem KO.grown{b:Option Nat}(h:w.grownBy w' b)(d:∀i,some i=b->O i):KO O w w':=⟨h.os,h.tape,h.output,h.size,λi hi hn=>h.block i hi λc=>hn (d i c)⟩
theorem KO.set{a:Addr}(h:O a.block)(u:Value):KO O w (w.setCell a u):=⟨rfl,rfl,rfl,by simp[World.setCell],λi _ hn=>jjc _ _ _ _ λc=>hn (by rw[c];exact h)⟩
theorem KO.alloc(o:Obj):KO O w (w.alloc o):=KO.below ((qjk _ _).alloc (qqf _) _)
theorem KO.cell(h:KO O w w'){a:Addr}{v:Value}(hc:w.cell? a=some v)(hn:¬O a.block):w'.cell? a=some v:=(World.cell?_of_block (h.block _ (aK hc) hn)).trans hc
theorem KO.blk(h:KO O w w'){g:Nat}{t:TypeId}{cs:Array Value}(b:Blk w g t cs)(hn:¬O g):Blk w' g t cs:=(h.block g b.lt hn).trans b
end
structure bQ(w:World)(g b0 b1 b2 n:Nat)(B:ae):Prop where
 blk:Blk w g 194 #[.map (some b0),.map (some b1),.map (some b2)]num:dK 3 okN (λx=>.int .i64 x) 2 w b0 n B.num
 cp:dK 3 okN (λx=>.int .i64 x) 3 w b1 n B.cp
 cB:dK 198 okB klB 3 w b2 n (λx=>B.cB x.1 x.2.1 x.2.2)ne:b0<b1/\b1<b2/\b2<g
def iK(b0 b1 b2:Nat)(k:Nat):Prop:=k=b0\/k=b1\/k=b2
section
variable {w w':World}{g b0 b1 b2 n:Nat}{B:ae}
theorem bQ.below(h:bQ w g b0 b1 b2 n B)(b:Below w.heap.size w w'):bQ w' g b0 b1 b2 n B:=⟨h.blk.below b,h.num.below b,h.cp.below b,h.cB.below b,h.ne⟩
theorem bQ.keep(h:bQ w g b0 b1 b2 n B){O:Nat->Prop}(b:KO O w w')(c:¬O g)(h0:¬O b0)(h1:¬O b1)(h2:¬O b2):bQ w' g b0 b1 b2 n B:=⟨b.blk h.blk c,h.num.same (b.block _ h.num.lt h0),h.cp.same (b.block _ h.cp.lt h1),h.cB.same (b.block _ h.cB.lt h2),h.ne⟩
theorem bQ.mono(h:bQ w g b0 b1 b2 n B){m:Nat}(hm:n<=m):bQ w g b0 b1 b2 m B:=⟨h.blk,h.num.mono hm,h.cp.mono hm,h.cB.mono hm,h.ne⟩
end
theorem qF{w w':World}{b:Nat}(h:w.mapTurned w' b):KO (λk=>k=b) w w':=KO.grown h.grown λi e=>jzp e
theorem o9:Tryz.prog.underlying 190=some (.map 3 2):=kqk
theorem FW:Tryz.prog.underlying 191=some (.map 3 3):=kqk
theorem yL:Tryz.prog.underlying 192=some (.map 198 3):=kqk
theorem Jg(g b0 b1 b2 n:Nat)(v:Int)(B:ae)(w:World)(h:bQ w g b0 b1 b2 n B)(hv:okN v):Calls Tryz.prog 138 #[.pointer (some ⟨g,0,none⟩),.int .i64 v] w λe w'=>e=.returned (.tuple #[])/\bQ w' g b0 b1 b2 n (B.put v)/\KO (iK b0 b1 b2) w w':=by
 obtain⟨u,Y,T,S,m0⟩:=h;have r:=hqh u;have F:=hqh Y;have A:=hqh T;have C:=hqh S;have lg:=u.lt;clear u Y T S;go_enter Tryz.func138,Tryz.ntmps138;go_upto_region 1 with fail;have k0:Blk (w.alloc (.cells #[.int .i64 v] 3)) w.heap.size 3 #[.int .i64 v]:=Blk.new w 3 _;have j:Below w.heap.size w (w.alloc (.cells #[.int .i64 v] 3)):=(qjk _ _).alloc (qqf _) _;have zs:(w.alloc (.cells #[.int .i64 v] 3)).heap.size=w.heap.size+1:=jqe ..;generalize o0:w.alloc (.cells #[.int .i64 v] 3)=wa at k0 j zs⊢;clear o0;have d:=hqh (r.o.below j);have G:=hqh (F.o.below j);have s:=hqh k0;clear k0;refine wp_region_draw [true,true,true,true,true,false] (λW=>Below wa.heap.size wa W) 1 bY (λ_ a a2 _ hd h=>by cases a;cases a2;cases hd;exact h) kqk (λ_ _ h=>h) ?_;iterate 5 refine aI (λK f=>?_);rw[qzb kqk];refine⟨_,λx0 R=>(by have kk:=(d.o.below R).cell 0;have kv:=(s.o.below R).cell 0;go_simp;try rfl),?_⟩;simp only[qqa];refine f _ ?_;clear f
 refine aV (aW ?_);intro vs Wd N e0 m;obtain⟨w1,n0,V,Z⟩:=(G.o.below m).drop jh o9 (x:=v) hv 0;refine aF 5 rfl kqk (λKK f=>?_);have HR:=hqh V;have H:=hqh Z;clear V Z;go_simp;refine f.o _ _ (Or.inr ((N.o 5).trans kqk)) ?_;clear f;refine aH kqk ?_;obtain⟨p0,r0,s0⟩:=m0;have y:=qF H.o;have l:KO (λk=>k=b0) w w1:=(KO.below (j.trans (m.mono oqo))).then' y λ_ _ c=>c;have I:=hqh l;have l0:b0<w.heap.size:=F.o.lt;have l1:b1<w.heap.size:=A.o.lt;have l2:b2<w.heap.size:=C.o.lt;have p:Blk w1 g 194 #[.map (some b0),.map (some b1),.map (some b2)]:=l.blk r.o oqo;have C1:dK 3 okN (λx=>.int .i64 x) 3 w1 b1 n B.cp:=A.o.same (l.block _ l1 oqo);have J:=C.o.same (l.block _ l2 oqo);have M:w1.cell? ⟨w.heap.size,0,none⟩=some (.int .i64 v):=by have:=(y.blk (s.o.below m) oqo).cell 0;simpa using this
 have c1:w1.cell? ⟨g,1,none⟩=some (.map (some b1)):=p.cell 1;have D:=hqh J;have d:=hqh p;clear l y J p n0 H s G j m e0 N d;have d:Hid (Blk w1 g 194 #[.map (some b0),.map (some b1),.map (some b2)]):=hqh (I.o.blk r.o oqo);have P1:=LC b1 n w.heap.size v B.cp w1 C1 M oqo;go_wp2_with(first| (go_at_call 158;refine P1.mono ?_;rintro e b⟨rfl,X,U⟩;have k2:KO (λk=>k=b1) w1 b:=KO.grown U λi e=>jzp e;have q:Blk b g 194 #[.map (some b0),.map (some b1),.map (some b2)]:=k2.blk d.o oqo;have L:dK 198 okB klB 3 b b2 n (λx=>B.cB x.1 x.2.1 x.2.2):=D.o.same (k2.block _ D.o.lt oqo);have V2:b.cell? ⟨w.heap.size,0,none⟩=some (.int .i64 v):=k2.cell M (by simp only[];omega);have c2:b.cell? ⟨g,2,none⟩=some (.map (some b2)):=q.cell 2;have P2:=IV b2 n w.heap.size v (λx=>B.cB x.1 x.2.1 x.2.2) b L V2 oqo;have E:=hqh X;have t:=hqh k2;have d0:=hqh q;clear X k2 q U L)|(go_at_call 160;refine P2.mono ?_;rintro e w3⟨rfl,j0,i0⟩)|fail);have k3:KO (λk=>k=b2) b w3:=KO.grown i0 λi e=>jzp e;go_end0;refine⟨rfl,⟨k3.blk d0.o oqo,?_,?_,j0,p0,r0,s0⟩,((I.o.weak (O':=iK b0 b1 b2) λi e=>Or.inl e).trans (t.o.weak λi e=>Or.inr (Or.inl e))).trans (k3.weak λi e=>Or.inr (Or.inr e))⟩;·have z:=HR.o;exact(z.same (t.o.block _ z.lt oqo)).same (k3.block _ (by have:=t.o.size;have:=z.lt;omega) oqo)
 ·exact E.o.same (k3.block _ E.o.lt oqo)
section
variable {P:Program}{ops:Array Oper}{rest:List Oper}{o:Oper}{a:Act}{w:World}{Q:Exit->Act->World->Prop}
theorem nX{w:World}{g:Nat}{t:TypeId}{cs:Array Value}(h:Blk w g t cs):w.rangeAt g 0 cs.toList:=λj v hv=>by rw[qja,h.cell];simpa using hv
theorem I4{w:World}{g:Nat}{t:TypeId}{cs b:Array Value}(h:Blk w g t cs):Blk (w.setRow g b) g t b:=by unfold Blk at h⊢;simp[World.setRow,Array.getElem?_modify,h]
theorem Le(w:World)(g:Nat)(b:Array Value):KO (λk=>k=g) w (w.setRow g b):=⟨rfl,rfl,rfl,by simp[World.setRow],λk _ hn=>by simp only[World.setRow,Array.getElem?_modify];rw[qzc λc=>hn c.symm]⟩
theorem aL(c:o.guard=none)(b:TypeId)(x:Operand)(ho:o.op=.load b x)(g:Nat)(e:a.eval x=.pointer (some ⟨g,0,none⟩))(t:TypeId)(cs:Array Value)(d:TypeDesc)(hc:Blk w g t cs)(hu:P.underlying b=some d)(hd:d.isRow=true)(hi:(P.info? b).map (·.size)=some cs.size)(h:wpList P ops Q rest (a.put o.dst (.agg cs)) w):wpList P ops Q (o::rest) a w:=by refine wpList_load_mid c b x ho g 0 e cs.toList d (nX hc) hu hd (by simpa using hi) ?_;simpa using h
theorem mo{K:Act->World->Prop}(c:TypeId)(x y:Operand)(ho:o.op=.store c x y)(g:Nat)(b:Array Value)(d:a.eval x=.pointer (some ⟨g,0,none⟩))(e:a.eval y=.agg b)(t:TypeId)(cs:Array Value)(hc:Blk w g t cs)(hs:cs.size=b.size)(hi:(P.info? c).map (·.size)=some b.size)(h1:b.toList.all (·.oneCell')=true)(h:∀w',Blk w' g t b->KO (λk=>k=g) w w'->K (a.put o.dst undef) w'):o.wp P a w K Q:=by unfold Oper.wp execOp;have hr:=run_storeVar_row (P:=P) w g t c cs b hc hi hs (by rw[<-Array.all_toList];exact h1);simp only[ho,d,e,Instr.storeAt,Instr.sureAddr,qjm,jzc,qjl,hr];exact h _ (I4 hc) (Le w g b)
theorem az(e:o.guard=none)(c:TypeId)(x y:Operand)(ho:o.op=.store c x y)(g:Nat)(b:Array Value)(f:a.eval x=.pointer (some ⟨g,0,none⟩))(i:a.eval y=.agg b)(t:TypeId)(cs:Array Value)(hc:Blk w g t cs)(hs:cs.size=b.size)(hi:(P.info? c).map (·.size)=some b.size)(h1:b.toList.all (·.oneCell')=true)(h:∀w',Blk w' g t b->KO (λk=>k=g) w w'->wpList P ops Q rest (a.put o.dst undef) w'):wpList P ops Q (o::rest) a w:=wpList_plain e λ_ d=>mo c x y ho g b f i t cs hc hs hi h1 λw' h1 h2=>d _ _ (h w' h1 h2)
end
theorem aS:(Tryz.prog.info? 71).map (·.size)=some 10:=kqk
theorem Cu{o v a b m bin f arr t:Int}{A:Option Addr}{d c:Nat}{i:Nat}{q:Option Addr}:(#[.int .u8 o,.int .i64 v,.int .i64 a,.int .i64 b,.int .i64 m,.int .u8 bin,.slice A d c,.int .i64 f,.int .i64 arr,.int .i64 t]:Array Value)[i]?≠some (.pointer q):=by match i with|0=>simp|1=>simp|2=>simp|3=>simp|4=>simp|5=>simp|6=>simp|7=>simp|8=>simp|9=>simp|i+10=>simp
theorem bO(w:World)(A:Option Addr)(c:Nat):ay w (.slice A 0 c) []:=⟨A,c,rfl,qqy _,Or.inl rfl⟩
theorem Q4(has:Bool)(n b:Int)(w:World):Calls Tryz.prog 111 #[.bool has,.int .i64 n,.int .i64 b] w λe w'=>e=.returned (.bool (eQ has n b))/\w=w':=by
 unfold eQ;cases has;all_goals by_cases h0:0<=n
 all_goals by_cases h1:n<b
 all_goals by_cases h2:n=0
 all_goals go_enter Tryz.func111,Tryz.ntmps111
 all_goals go_wp2_with fail
 all_goals go_ret
 all_goals exact⟨aO (by simp[h0,h1,h2]<;>omega),rfl⟩
def opAt(w:World)(b o:Nat)(k:Nat):Prop:=w.cell? ⟨b,o,none⟩=some (.int .u8 k)
def NN(w:World)(v:Value)(l:List Nat):Prop:=iW 1 opAt w v l
theorem K9(v:Value)(l:List Nat)(x:Nat)(w:World)(h:NN w v l)(hl:l.length<=1000000):Calls Tryz.prog 178 #[v,.int .u8 x] w λe w'=>(∃n:Int,e=.returned (.int .i64 n)/\(0<=n↔x∈l))/\w=w':=by
 obtain⟨A,c,rfl,hc,h⟩:=h;obtain⟨n,hn⟩:∃n,n=l.length:=⟨_,rfl⟩;rw[<-hn];have H:=hqh h;have j:=hqh hn;have t:=hqh hl;clear h hn hc hl;go_enter Tryz.func178,Tryz.ntmps178;go_wp2_with fail;go_loopg [8]n(λgk v wr=>∃i:Nat,i<=n/\n-i<=gk/\v=.int .i64 i/\wr=w/\Hid (x∉l.take i));case atStart=>exact⟨0,qqy _,qqf _,rfl,rfl,hqh (by simp)⟩
 case round=>
  obtain⟨i,hi,E,rfl,rfl,f⟩:=hrel;by_cases z:i<n;case neg=>have q:decide ((i:Int)<(n:Int))=false:=qqt oqo;go_wp2_with fail;go_ret;refine⟨⟨-1,rfl,⟨λh=>absurd h oqo,λh=>absurd h ?_⟩⟩,rfl⟩;have:=f.o;rwa[jqc (by have:=j.o;omega)]at this
  case pos=>
   have q:decide ((i:Int)<(n:Int))=true:=qqx oqo;have u:i<l.length:=by rw[<-j.o];exact z
   obtain⟨y,d⟩:∃y,l[i]? =some y:=⟨_,qqh u⟩;obtain⟨b,o,rfl,p⟩:∃b o,A=some ⟨b,o,none⟩/\wr.cell? ⟨b,o+i*1,none⟩=some (.int .u8 y):=by
    rcases H.o with rfl|⟨b,o,e,k⟩;·simp at d
    ·exact⟨b,o,e,k i y d⟩
   rw[jzb]at p;have lb:=aK p;have D:=t.o;have m:=hqh d;clear d;by_cases r:x=y;case pos=>
    subst r;have C:((x:Int)==(x:Int))=true:=by simp
    go_wp2_with fail;go_ret;exact⟨⟨i,rfl,⟨λ_=>qqr m.o,λ_=>by omega⟩⟩,rfl⟩
   case neg=>
    have C:((x:Int)==(y:Int))=false:=by simp;omega
    have s:=hqh (show x∉l.take (i+1)by
     rw[jqu,m.o];intro hm;rcases qzu.1 hm with hm|hm;·exact f.o hm
     ·simp at hm;exact r hm);go_wp2_with fail;cases gk with|zero=>omega|succ gk=>
     go_roundg gk;case measure=>omega
     case rel=>exact⟨i+1,by omega,by omega,by simp,rfl,s⟩
theorem FY(v:Value)(l:List Nat)(x:Nat)(w:World)(h:NN w v l)(hl:l.length<=1000000):Calls Tryz.prog 148 #[v,.int .u8 x] w λe w'=>e=.returned (.bool (decide (x∈l)))/\w=w':=by
 have hi:=K9 v l x w h hl;go_enter Tryz.func148,Tryz.ntmps148;go_wp2_with fail;refine hi.mono ?_;rintro e w1⟨⟨n,rfl,hn⟩,rfl⟩;have b:=hqh hn;clear hn;go_wp2_with fail;all_goals go_ret
 all_goals exact⟨aO (by rw[qzd];simp only[qqu];exact b.o),rfl⟩
theorem SE(w:World)(t:TypeId)(l:List Nat):NN (w.alloc (.cells (l.map λ(k:Nat)=>Value.int .u8 k).toArray t)) (.slice (some ⟨w.heap.size,0,none⟩) l.length l.length) l:=by refine⟨_,_,rfl,qqf _,Or.inr ⟨_,0,rfl,λi x b=>?_⟩⟩;show World.cell? _ _=_;rw[(Blk.new w t (l.map λ(k:Nat)=>Value.int .u8 k).toArray).cell];simp[b]
theorem EU(o:Nat)(w:World):Calls Tryz.prog 113 #[.int .u8 o] w λe w'=>e=.returned (.bool (decide (o∈jE)))/\Below w.heap.size w w':=by go_enter Tryz.func113,Tryz.ntmps113;go_wp2_with fail;refine(FY _ jE o _ (SE w 37 jE) (by decide)).mono ?_;rintro e w1⟨rfl,rfl⟩;go_wp2_with fail;go_ret;exact⟨rfl,(qjk _ _).alloc (qqf _) _⟩
namespace Ev
def gt(M i:Nat):Nat:=Nat.land (Nat.shiftRight M (Nat.mul 128 i)) 340282366920938463463374607431768211455
def ch(M i n:Nat):Nat:=Nat.land (Nat.shiftRight M (Nat.mul 128 i)) (Nat.sub (Nat.pow 2 (Nat.mul 128 n)) 1)
def up(M i n c:Nat):Nat:=Nat.xor M (Nat.shiftLeft (Nat.xor (ch M i n) c) (Nat.mul 128 i))
def ad(M i c:Nat):Nat:=Nat.lor M (Nat.shiftLeft c (Nat.mul 128 i))
theorem rM(M i n j:Nat):(ch M i n).testBit j=(decide (j<128*n)&&M.testBit (128*i+j)):=by show((M>>>(128*i))&&&(2^(128*n)-1)).testBit j=_;rw[Nat.testBit_and,Nat.testBit_shiftRight,Nat.testBit_two_pow_sub_one,Bool.and_comm]
theorem Rf(M i:Nat):gt M i=ch M i 1:=rfl
theorem jg(M i j:Nat):(gt M i).testBit j=(decide (j<128)&&M.testBit (128*i+j)):=by rw[Rf,rM]
theorem Nt(M i n c j:Nat):(up M i n c).testBit j=(M.testBit j^^(decide (128*i<=j)&&((ch M i n).testBit (j-128*i)^^c.testBit (j-128*i)))):=by show(M^^^((ch M i n^^^c)<<<(128*i))).testBit j=_;rw[Nat.testBit_xor,Nat.testBit_shiftLeft,Nat.testBit_xor]
theorem Fj(M i c j:Nat):(ad M i c).testBit j=(M.testBit j||(decide (128*i<=j)&&c.testBit (j-128*i))):=by show(M|||(c<<<(128*i))).testBit j=_;rw[Nat.testBit_or,Nat.testBit_shiftLeft]
theorem jl{M n j:Nat}(h:M<2^n)(hj:n<=j):M.testBit j=false:=Nat.testBit_lt_two_pow (qzj h (Nat.pow_le_pow_right oqo hj))
theorem l8{M n:Nat}(h:∀j,n<=j->M.testBit j=false):M<2^n:=Nat.lt_pow_two_of_testBit M h
theorem jD(M i n:Nat):ch M i n<2^(128*n):=l8 λj hj=>by rw[rM,qqt oqo];rfl
theorem WH(M i:Nat):gt M i<2^128:=jD M i 1
theorem jF(M i n k:Nat):gt (ch M i n) k=if k<n then gt M (i+k)else 0:=by
 refine jzf λj=>?_;rw[jg,rM];split
 ·rw[jg];by_cases hj:j<128
  ·have:128*k+j<128*n:=by omega
   simp[hj,this,show 128*i+(128*k+j)=128*(i+k)+j from by omega]
  ·simp[hj]
 ·by_cases hj:j<128
  ·have:¬128*k+j<128*n:=by omega
   simp[this]
  ·simp[hj]
theorem lT{c n:Nat}(M i k:Nat)(h:c<2^(128*n)):gt (up M i n c) k=if i<=k/\k<i+n then gt c (k-i)else gt M k:=by
 refine jzf λj=>?_;by_cases hj:j<128
 ·rw[jg,Nt];split;·rename_i hk;rw[jg,rM];have b:128*i<=128*k+j:=oqo;have d:128*k+j-128*i=128*(k-i)+j:=oqo;have e:128*(k-i)+j<128*n:=oqo;have f:128*i+(128*(k-i)+j)=128*k+j:=oqo;simp[hj,b,d,e,f]
  ·rename_i hk;rw[jg,rM];by_cases b:128*i<=128*k+j
   ·have d:¬128*k+j-128*i<128*n:=by omega
    have e:c.testBit (128*k+j-128*i)=false:=jl h oqo;simp[hj,d,e]
   ·simp[hj,b]
 ·split<;>simp[jg,hj]
theorem yM{M i n c m:Nat}(e:M<2^(128*m))(hi:i+n<=m)(h:c<2^(128*n)):up M i n c<2^(128*m):=by refine l8 λj hj=>?_;rw[Nt,jl e hj,rM];have b:¬j-128*i<128*n:=oqo;have d:c.testBit (j-128*i)=false:=jl h oqo;simp[b,d]
theorem dM{M i:Nat}(c k:Nat)(h:M<2^(128*i)):gt (ad M i c) k=if k<i then gt M k else gt c (k-i):=by
 refine jzf λj=>?_;by_cases hj:j<128
 ·rw[jg,Fj];split;·rw[jg];have b:¬128*i<=128*k+j:=oqo;simp[hj,b]
  ·rw[jg,jl h oqo];have b:128*i<=128*k+j:=oqo;have d:128*k+j-128*i=128*(k-i)+j:=oqo;simp[hj,b,d]
 ·split<;>simp[jg,hj]
theorem ic{M i c n:Nat}(b:M<2^(128*i))(h:c<2^(128*n)):ad M i c<2^(128*(i+n)):=by refine l8 λj hj=>?_;rw[Fj,jl b oqo,jl h oqo];simp
theorem VB{M m k:Nat}(h:M<2^(128*m))(hk:m<=k):gt M k=0:=by refine jzf λj=>?_;rw[jg,jl h oqo];simp
theorem fT{w:Nat}(k:Nat)(h:w<2^128):gt w k=if k=0 then w else 0:=by
 split
 ·rename_i hk;subst hk;refine jzf λj=>?_;rw[jg];by_cases hj:j<128;·simp[hj]
  ·simp[hj,jl h (show 128<=j by omega)]
 ·exact VB (m:=1) (by simpa using h) oqo
theorem vW(k:Nat):gt 0 k=0:=by refine jzf λj=>?_;rw[jg];simp
theorem Vh{w:Nat}(T d k:Nat)(h:w<2^128):gt (up T d 1 w) k=if k=d then w else gt T k:=by
 rw[lT T d k (by simpa using h),fT _ h];by_cases hk:k=d;·subst hk;simp
 ·rw[qzc oqo,qzc hk]
def fc{α:Type}(x:Nat)(k:Nat->α):α:=k x
theorem bX{α:Type}(x:Nat)(k:Nat->α):fc x k=k x:=rfl
end Ev
namespace Ev
def kc:IntKind->Nat| .i8=>0| .i16=>1| .i32=>2| .i64=>3| .u8=>4| .u16=>5| .u32=>6| .u64=>7
theorem iY(k:IntKind):kc k<8:=by cases k<;>decide
theorem uT{j k:IntKind}(h:kc j=kc k):j=k:=by cases j<;>cases k<;>first|rfl|(exact absurd h (by decide))
def nC(b:Bool):Nat:=Bool.rec 1 17 b
def aC(k:IntKind)(n:Int):Nat:=2+16*kc k+256*(n+9223372036854775808).toNat
def dC(st l:Nat):Nat:=3+16*l+268435456*st
def bR(s z o:Nat):Nat:=5+16*s+268435456*z+4503599627370496*o
def aX(s z l e o:Nat):Nat:=7+16*s+268435456*z+4503599627370496*l+75557863725914323419136*e+19342813113834066795298816*o
def gM(s:Nat):Nat:=8+16*s
def eD(f m n s:Nat):Nat:=10+16*f+1048576*m+268435456*n+68719476736*s
def gI(f:Nat):Nat:=15+16*f
def iD(t s:Nat):Nat:=11+16*t+68719476736*s
def dU(st n:Nat):Nat:=12+16*n+268435456*st
def iH(j:Nat):Nat:=16+16*j
def eZ(st n:Nat):Nat:=13+16*n+268435456*st
inductive Info where|free|cells(blk base size room:Nat)|row(ws:List Nat)|map(blk:Nat)
structure Gh where
 rho:Nat->Info
 S:Nat
 nS:Nat
 rh:Nat->Value:=λ_=>undef
def aN(S i:Nat):Nat:=Nat.land (Nat.shiftRight S (Nat.mul 8 i)) 255
def strOf(S st l:Nat):ByteArray:=⟨((List.range l).map λi=>UInt8.ofNat (aN S (st+i))).toArray⟩
structure Gh.le(g g':Gh):Prop where
 rho:∀s,g.rho s≠.free->g'.rho s=g.rho s
 nS:g.nS<=g'.nS
 byte:∀i,i<g.nS->aN g'.S i=aN g.S i
 rh:g'.rh=g.rh
theorem Gh.le.refl(g:Gh):g.le g:=⟨λ_ _=>rfl,qqf _,λ_ _=>rfl,rfl⟩
theorem Gh.le.trans{a b c:Gh}(h:a.le b)(k:b.le c):a.le c:=⟨λs hs=>by rw[k.rho s (by rw[h.rho s hs];exact hs),h.rho s hs],qzi h.nS k.nS,λi hi=>(k.byte i (qzj hi h.nS)).trans (h.byte i hi),k.rh.trans h.rh⟩
theorem xS{g g':Gh}(h:g.le g'){st l:Nat}(b:st+l<=g.nS):strOf g'.S st l=strOf g.S st l:=by unfold strOf;congr 2;refine jqg λi hi=>?_;rw[h.byte _ (by have:=qzg.1 hi;omega)]
inductive VR(g:Gh):Nat->Value->Prop|unk(v:Value)(h:v.oneCell'=true):VR g 0 v|sym(j:Nat)(hj:j<16777216)(h:(g.rh j).oneCell'=true):VR g (iH j) (g.rh j)|bool(b:Bool):VR g (nC b) (.bool b)|int(k:IntKind)(n:Int)(h1: -9223372036854775808<=n)(h2:n<18446744073709551616):VR g (aC k n) (.int k n)|str(st l:Nat)(h1:l<16777216)(h2:st+l<=g.nS)(h3:st<4294967296):VR g (dC st l) (.string (strOf g.S st l))|pnil:VR g 4 (.pointer none)| ptr(s z o blk base room:Nat)(hs:s<16777216)(hz:z<16777216)(h:g.rho s=.cells blk base z room)(ho:o<=z):VR g (bR s z o) (.pointer (some ⟨blk,base+o,none⟩))|snil:VR g 6 (.slice none 0 0)| sli(s z l e o blk base room cap:Nat)(a:Addr)(hs:s<16777216)(hz:z<16777216)(hl:l<16777216)(he:e<256)(h:g.rho s=.cells blk base z room)(ho:o+l*e<=z)(hc:l<=cap)(ha:cap=0\/(a=⟨blk,base+o,none⟩/\o+cap*e<=room)):VR g (aX s z l e o) (.slice (some a) l cap)|semp(a:Addr):VR g 57 (.slice (some a) 0 0)|mnil:VR g 9 (.map none)|map(s blk:Nat)(hs:s<16777216)(h:g.rho s=.map blk):VR g (gM s) (.map (some blk))|fnil:VR g 25 .nilFunc|inil:VR g 41 .nilIface| func(f m n s:Nat)(ws:List Nat)(first cap:Array Value)(hf:f<65536)(hm:m<256)(hn:n<256)(hs:s<16777216)(h:g.rho s=.row ws)(hm':first.size=m)(hn':cap.size=n)(hw:ws.length=m+n)(h1:∀i,i<m->VR g (ws.getD i 0) (first.getD i undef))(h2:∀i,i<n->VR g (ws.getD (m+i) 0) (cap.getD i undef)):VR g (eD f m n s) (.func (.func f) first cap)|fn0(f:Nat)(hf:f<65536):VR g (gI f) (.func (.func f) #[] #[])|ifc(t s w:Nat)(v:Value)(ht:t<1048576)(hs:s<16777216)(h:g.rho s=.row [w])(hv:VR g w v)(h0:w≠0):VR g (iD t s) (.iface t v)
theorem VR.mono{g g':Gh}(h:g.le g'){w:Nat}{v:Value}(hv:VR g w v):VR g' w v:=by induction hv with|unk v h=>exact .unk v h|sym j hj ho=>rw[<-h.rh];exact .sym j hj (by rw[h.rh];exact ho)|bool b=>exact .bool b|int k n h1 h2=>exact .int k n h1 h2|str st l h1 h2 h3=>rw[<-xS h h2];exact .str st l h1 (qzi h2 h.nS) h3|pnil=>exact .pnil|ptr s z o blk base room hs hz hr ho=>exact .ptr s z o blk base room hs hz (by rw[h.rho s (by rw[hr];simp),hr]) ho|snil=>exact .snil|sli s z l e o blk base room cap a hs hz hl he hr ho hc ha=>exact .sli s z l e o blk base room cap a hs hz hl he (by rw[h.rho s (by rw[hr];simp),hr]) ho hc ha|semp a=>exact .semp a|mnil=>exact .mnil|map s blk hs hr=>exact .map s blk hs (by rw[h.rho s (by rw[hr];simp),hr])|fnil=>exact .fnil|inil=>exact .inil|func f m n s ws first cap hf hm hn hs hr hm' hn' hw _ _ c i2=>exact .func f m n s ws first cap hf hm hn hs (by rw[h.rho s (by rw[hr];simp),hr]) hm' hn' hw c i2|fn0 f hf=>exact .fn0 f hf|ifc t s w v ht hs hr _ h0 ih=>exact .ifc t s w v ht hs (by rw[h.rho s (by rw[hr];simp),hr]) ih h0
theorem VR.lt{g:Gh}{w:Nat}{v:Value}(hv:VR g w v):w<2^128:=by cases hv with|unk=>decide|sym j hj=>unfold iH;omega|bool b=>cases b<;>decide|int k n h1 h2=>have:=iY k;unfold aC;omega|str st l h1 h2 h3=>unfold dC;omega|ptr s z o _ _ _ hs hz _ ho=>unfold bR;omega|sli s z l e o _ _ _ _ _ hs hz hl he _ ho=>have:o<=z:=qzi (Nat.le_add_right _ _) ho;unfold aX;omega|map s _ hs=>unfold gM;omega|func f m n s _ _ _ hf hm hn hs=>unfold eD;omega|fn0 f hf=>unfold gI;omega|ifc t s _ _ ht hs=>unfold iD;omega|_=>decide
section
variable {g:Gh}{w:Nat}{v:Value}
theorem VR.gL(hv:VR g w v)(h:w%16=1):∃b,w=nC b/\v=.bool b:=by cases hv<;>first|exact⟨_,rfl,rfl⟩|(exfalso;(try simp only[aC,dC,bR,aX,gM,eD,iD,gI,iH]at h);omega)
theorem VR.jf(hv:VR g w v)(h:w%16=2):∃k n,w=aC k n/\v=.int k n/\-9223372036854775808<=n/\n<18446744073709551616:=by cases hv<;>first|exact⟨_,_,rfl,rfl,‹_›,‹_›⟩|(exfalso;(try simp only[dC,bR,aX,gM,eD,iD,gI,iH]at h);omega)|(rename_i b;cases b<;>exact absurd h (by decide))
theorem VR.rY(hv:VR g w v)(h:w%16=3):∃st l,w=dC st l/\v=.string (strOf g.S st l)/\l<16777216/\st+l<=g.nS/\st<4294967296:=by cases hv<;>first|exact⟨_,_,rfl,rfl,‹_›,‹_›,‹_›⟩|(exfalso;(try simp only[aC,bR,aX,gM,eD,iD,gI,iH]at h);omega)|(rename_i b;cases b<;>exact absurd h (by decide))
theorem VR.Dm(hv:VR g w v)(h:w%16=4):v=.pointer none:=by cases hv<;>first|rfl|(exfalso;(try simp only[aC,dC,bR,aX,gM,eD,iD,gI,iH]at h);omega)|(rename_i b;cases b<;>exact absurd h (by decide))
theorem VR.Av(hv:VR g w v)(h:w%16=5):∃s z o blk base room,w=bR s z o/\v=.pointer (some ⟨blk,base+o,none⟩)/\s<16777216/\z<16777216/\g.rho s=.cells blk base z room/\o<=z:=by cases hv<;>first|exact⟨_,_,_,_,_,_,rfl,rfl,‹_›,‹_›,‹_›,‹_›⟩|(exfalso;(try simp only[aC,dC,aX,gM,eD,iD,gI,iH]at h);omega)|(rename_i b;cases b<;>exact absurd h (by decide))
theorem VR.xN(hv:VR g w v)(h:w%16=6):v=.slice none 0 0:=by cases hv<;>first|rfl|(exfalso;(try simp only[aC,dC,bR,aX,gM,eD,iD,gI,iH]at h);omega)|(rename_i b;cases b<;>exact absurd h (by decide))
theorem VR.wu(hv:VR g w v)(h:w%16=7):∃s z l e o blk base room cap a,w=aX s z l e o/\v=.slice (some a) l cap/\s<16777216/\z<16777216/\l<16777216/\e<256/\g.rho s=.cells blk base z room/\o+l*e<=z/\l<=cap/\(cap=0\/(a=⟨blk,base+o,none⟩/\o+cap*e<=room)):=by cases hv<;>first|exact⟨_,_,_,_,_,_,_,_,_,_,rfl,rfl,‹_›,‹_›,‹_›,‹_›,‹_›,‹_›,‹_›,‹_›⟩|(exfalso;(try simp only[aC,dC,bR,gM,eD,iD,gI,iH]at h);omega)|(rename_i b;cases b<;>exact absurd h (by decide))
theorem VR.Bh(hv:VR g w v)(h:w%16=8):∃s blk,w=gM s/\v=.map (some blk)/\s<16777216/\g.rho s=.map blk:=by cases hv<;>first|exact⟨_,_,rfl,rfl,‹_›,‹_›⟩|(exfalso;(try simp only[aC,dC,bR,aX,eD,iD,gI,iH]at h);omega)|(rename_i b;cases b<;>exact absurd h (by decide))
theorem VR.yA(hv:VR g w v)(h:w=57):∃a,v=.slice (some a) 0 0:=by cases hv<;>first|exact⟨_,rfl⟩|(exfalso;(try simp only[aC,dC,bR,aX,gM,eD,iD,gI,iH]at h);omega)|(rename_i b;cases b<;>exact absurd h (by decide))
theorem VR.EP(hv:VR g w v)(h:w=9):v=.map none:=by cases hv<;>first|rfl|(exfalso;(try simp only[aC,dC,bR,aX,gM,eD,iD,gI,iH]at h);omega)|(rename_i b;cases b<;>exact absurd h (by decide))
theorem VR.DD(hv:VR g w v)(h:w=25):v=.nilFunc:=by cases hv<;>first|rfl|(exfalso;(try simp only[aC,dC,bR,aX,gM,eD,iD,gI,iH]at h);omega)|(rename_i b;cases b<;>exact absurd h (by decide))
theorem VR.F5(hv:VR g w v)(h:w=41):v=.nilIface:=by cases hv<;>first|rfl|(exfalso;(try simp only[aC,dC,bR,aX,gM,eD,iD,gI,iH]at h);omega)|(rename_i b;cases b<;>exact absurd h (by decide))
theorem VR.mM(hv:VR g w v)(h:w%16=10):∃f m n s ws first cap,w=eD f m n s/\v=.func (.func f) first cap/\f<65536/\m<256/\n<256/\s<16777216/\g.rho s=.row ws/\first.size=m/\cap.size=n/\ws.length=m+n/\(∀i,i<m->VR g (ws.getD i 0) (first.getD i undef))/\(∀i,i<n->VR g (ws.getD (m+i) 0) (cap.getD i undef)):=by cases hv<;>first|exact⟨_,_,_,_,_,_,_,rfl,rfl,‹_›,‹_›,‹_›,‹_›,‹_›,‹_›,‹_›,‹_›,‹_›,‹_›⟩|(exfalso;(try simp only[aC,dC,bR,aX,gM,iD,gI,iH]at h);omega)|(rename_i b;cases b<;>exact absurd h (by decide))
theorem VR.Hw(hv:VR g w v)(h:w%16=11):∃t s u x,w=iD t s/\v=.iface t x/\t<1048576/\s<16777216/\g.rho s=.row [u]/\VR g u x/\u≠0:=by cases hv<;>first|exact⟨_,_,_,_,rfl,rfl,‹_›,‹_›,‹_›,‹_›,‹_›⟩|(exfalso;(try simp only[aC,dC,bR,aX,gM,eD,gI,iH]at h);omega)|(rename_i b;cases b<;>exact absurd h (by decide))
theorem VR.one(hv:VR g w v):v.oneCell'=true:=by cases hv<;>first|assumption|rfl
theorem VR.rF(hv:VR g w v)(h:w%16=15):∃f,w=gI f/\v=.func (.func f) #[] #[]/\f<65536:=by cases hv<;>first|exact⟨_,rfl,rfl,‹_›⟩|(exfalso;(try simp only[aC,dC,bR,aX,gM,eD,iD,iH]at h);omega)|(rename_i b;cases b<;>exact absurd h (by decide))
theorem VR.Te(hv:VR g w v)(h:w%16=0)(h0:w≠0):∃j,w=iH j/\v=g.rh j/\j<16777216/\(g.rh j).oneCell'=true:=by cases hv<;>first|exact⟨_,rfl,rfl,‹_›,‹_›⟩|(exfalso;(try simp only[aC,dC,bR,aX,gM,eD,iD,gI]at h);omega)|(rename_i b;cases b<;>exact absurd h (by decide))|(exact absurd rfl h0)
theorem VR.tag(hv:VR g w v):w%16≠12/\w%16≠13/\w%16≠14:=by cases hv<;>first|((try simp only[aC,dC,bR,aX,gM,eD,iD,gI,iH]);omega)|(rename_i b;cases b<;>decide)
end
inductive TR(g:Gh)(R nR:Nat):Nat->Value->Prop|unk(v:Value):TR g R nR 0 v|und:TR g R nR 14 undef|cell(w:Nat)(v:Value)(h:VR g w v):TR g R nR w v| agg(st n:Nat)(vs:Array Value)(hn:n<16777216)(hs:st<4294967296)(h:st+n<=nR)(hv:vs.size=n)(hc:∀i,i<n->VR g (gt R (st+i)) (vs.getD i undef)):TR g R nR (dU st n) (.agg vs)| tup(st n:Nat)(vs:Array Value)(hn:n<16777216)(hs:st<4294967296)(h:st+n<=nR)(hv:vs.size=n)(hc:∀i,i<n->TR g R nR (gt R (st+i)) (vs.getD i undef)):TR g R nR (eZ st n) (.tuple vs)
def Ext(R nR b c:Nat):Prop:=nR<=c/\∀i,i<nR->gt b i=gt R i
theorem Ext.refl(R nR:Nat):Ext R nR R nR:=⟨qqf _,λ_ _=>rfl⟩
theorem Ext.trans{A a B b C c:Nat}(h:Ext A a B b)(k:Ext B b C c):Ext A a C c:=⟨qzi h.1 k.1,λi hi=>(k.2 i (qzj hi h.1)).trans (h.2 i hi)⟩
theorem Ext.ad{R nR:Nat}(n c:Nat)(h:R<2^(128*nR)):Ext R nR (ad R nR c) (nR+n):=⟨by omega,λi hi=>by rw[dM _ _ h,qzb hi]⟩
theorem TR.mono{g g':Gh}{R nR c d:Nat}(h:g.le g')(hr:Ext R nR c d){w:Nat}{v:Value}(hv:TR g R nR w v):TR g' c d w v:=by induction hv with|unk v=>exact .unk v|und=>exact .und|cell w v hv=>exact .cell w v (hv.mono h)|agg st n vs hn hs b hv hc=>exact .agg st n vs hn hs (qzi b hr.1) hv λi hi=>by rw[hr.2 _ oqo];exact(hc i hi).mono h|tup st n vs hn hs b hv _ ih=>exact .tup st n vs hn hs (qzi b hr.1) hv λi hi=>by rw[hr.2 _ oqo];exact ih i hi
theorem TR.lt{g:Gh}{R nR w:Nat}{v:Value}(hv:TR g R nR w v):w<2^128:=by cases hv with|unk=>decide|und=>decide|cell _ _ h=>exact h.lt|agg st n _ hn hs=>unfold dU;omega|tup st n _ hn hs=>unfold eZ;omega
theorem TR.aP{g:Gh}{R nR w:Nat}{v:Value}(hv:TR g R nR w v)(h:w%16≠12)(h1:w%16≠13)(h2:w%16≠14)(h0:w≠0):VR g w v:=by cases hv with|unk=>exact absurd rfl h0|und=>exact absurd rfl h2|cell _ _ h=>exact h|agg st n=>exfalso;simp only[dU]at h;omega|tup st n=>exfalso;simp only[eZ]at h1;omega
theorem TR.Bv{g:Gh}{R nR w:Nat}{v:Value}(hv:TR g R nR w v)(h:w%16=12):∃st n vs,w=dU st n/\v=.agg vs/\n<16777216/\st<4294967296/\st+n<=nR/\vs.size=n/\ ∀i,i<n->VR g (gt R (st+i)) (vs.getD i undef):=by cases hv with|unk=>omega|und=>omega|cell _ _ hv=>have:=hv.tag;omega|agg st n vs hn hs b hv hc=>exact⟨st,n,vs,rfl,rfl,hn,hs,b,hv,hc⟩|tup st n=>exfalso;simp only[eZ]at h;omega
theorem TR.rV{g:Gh}{R nR w:Nat}{v:Value}(hv:TR g R nR w v)(h:w%16=13):∃st n vs,w=eZ st n/\v=.tuple vs/\n<16777216/\st<4294967296/\st+n<=nR/\vs.size=n/\ ∀i,i<n->TR g R nR (gt R (st+i)) (vs.getD i undef):=by cases hv with|unk=>omega|und=>omega|cell _ _ hv=>have:=hv.tag;omega|agg st n=>exfalso;simp only[dU]at h;omega|tup st n vs hn hs b hv hc=>exact⟨st,n,vs,rfl,rfl,hn,hs,b,hv,hc⟩
end Ev
namespace Ev
structure St where
 T:Nat
 D:List (Nat×List Nat)R:Nat
 nR:Nat
 M:Nat
 nM:Nat
 S:Nat
 nS:Nat
@[reducible] def setM (M nM:Nat) (st:St):St:=St.rec (fun T D R nR _ _ S nS=>⟨T,D,R,nR,M,nM,S,nS⟩) st
@[reducible] def setR (R nR:Nat) (st:St):St:=St.rec (fun T D _ _ M nM S nS=>⟨T,D,R,nR,M,nM,S,nS⟩) st
@[reducible] def setS (S nS:Nat) (st:St):St:=St.rec (fun T D R nR M nM _ _=>⟨T,D,R,nR,M,nM,S,nS⟩) st
@[reducible] def setD (D:List (Nat×List Nat)) (st:St):St:=St.rec (fun T _ R nR M nM S nS=>⟨T,D,R,nR,M,nM,S,nS⟩) st
def Info.size:Info->Nat| .free=>0| .cells _ _ z _=>z| .row ws=>ws.length| .map _=>1
def eMp(c nv s:Nat):Nat:=14+16*c+268435456*nv+68719476736*s
def uG(g:Gh)(ws:List Nat)(b nv:Nat)(v:Value):Prop:=if nv=0 then VR g (ws.getD b 0) v else∃vs:Array Value,v=.agg vs/\vs.size=nv/\∀i,i<nv->VR g (ws.getD (b+i) 0) (vs.getD i undef)
def stride(nv:Nat):Nat:=if nv=0 then 2 else nv+1
def jW(g:Gh)(m:Nat)(o:Obj):Prop:= ∃c nv s ws b d,m=eMp c nv s/\c<16777216/\nv<256/\s<16777216/\g.rho s=.row ws/\o=.map b d/\b.size=c/\ws.length=c*stride nv/\ ∀i(h:i<b.size),VR g (ws.getD (i*stride nv) 0) b[i].key/\uG g ws (i*stride nv+1) nv b[i].val
def Own(g:Gh)(b:Nat):Prop:=(∃s base z room,g.rho s=.cells b base z room)\/∃s,g.rho s=.map b
def Live(M s z:Nat):Prop:=∃o,o<z/\gt M (s+o)≠0
def pK(fr:Nat×Nat)(n:Nat):Prop:=fr.1=fr.2\/n<=fr.1
structure qw(g:Gh)(M:Nat)(w:World)(s blk base z room:Nat)(c:Array Value)(e:TypeId)(fr:Nat×Nat):Prop where
 heap:w.heap[blk]? =some (.cells c e fr)size:c.size=base+room
 room:z<=room
 one:∀i,i<c.size->(c.getD i undef).oneCell'=true
 vr:∀o,o<z->VR g (gt M (s+o)) (c.getD (base+o) undef)thaw:Live M s z->pK fr c.size
structure HR(g:Gh)(st:St)(w:World):Prop where
 S:st.S=g.S
 nS:st.nS=g.nS
 Slt:st.S<2^(8*st.nS)Mlt:st.M<2^(128*st.nM)Rlt:st.R<2^(128*st.nR)top:∀s,g.rho s≠.free->s+(g.rho s).size<st.nM
 iV:∀s s',s<s'->g.rho s≠.free->g.rho s'≠.free->s+(g.rho s).size<s'
 cells:∀s blk base z room,g.rho s=.cells blk base z room->∃c e fr,qw g st.M w s blk base z room c e fr
 rows:∀s ws,g.rho s=.row ws->∀i,i<ws.length->gt st.M (s+i)=ws.getD i 0
 maps:∀s blk,g.rho s=.map blk->∃o,w.heap[blk]? =some o/\jW g (gt st.M s) o
 inj:∀s s' blk base z room base' z' room',s≠s'->g.rho s=.cells blk base z room->g.rho s'=.cells blk base' z' room'->Live st.M s z->¬Live st.M s' z'
 l6:∀s s' blk,g.rho s=.map blk->g.rho s'=.map blk->s=s'
structure Fr(g:Gh)(w:World)(g':Gh)(w':World):Prop where
 os:w'.os=w.os
 tape:w'.tape=w.tape
 output:w'.output=w.output
 size:w.heap.size<=w'.heap.size
 le:g.le g'
 keep:∀b,b<w.heap.size->¬Own g b->w'.heap[b]? =w.heap[b]?
 own:∀b,b<w.heap.size->Own g' b->Own g b
theorem Fr.refl(g:Gh)(w:World):Fr g w g w:=⟨rfl,rfl,rfl,qqf _,Gh.le.refl _,λ_ _ _=>rfl,λ_ _ h=>h⟩
theorem Fr.trans{g g1 g2:Gh}{w w1 d:World}(h:Fr g w g1 w1)(k:Fr g1 w1 g2 d):Fr g w g2 d:=⟨k.os.trans h.os,k.tape.trans h.tape,k.output.trans h.output,qzi h.size k.size,h.le.trans k.le,λb c ho=>(k.keep b (qzj c h.size) (λo=>ho (h.own b c o))).trans (h.keep b c ho),λb c ho=>h.own b c (k.own b (qzj c h.size) ho)⟩
theorem qw.congr{g:Gh}{M:Nat}{w w':World}(e:w'.heap=w.heap){s blk base z room:Nat}{c:Array Value}{t:TypeId}{fr:Nat×Nat}(h:qw g M w s blk base z room c t fr):qw g M w' s blk base z room c t fr:=⟨by rw[e];exact h.heap,h.size,h.room,h.one,h.vr,h.thaw⟩
theorem HR.congr{g:Gh}{st:St}{w w':World}(e:w'.heap=w.heap)(h:HR g st w):HR g st w':=⟨h.S,h.nS,h.Slt,h.Mlt,h.Rlt,h.top,h.iV,λs blk base z room hs=>let⟨c,t,fr,hc⟩:=h.cells s blk base z room hs;⟨c,t,fr,hc.congr e⟩,h.rows,λs blk hs=>by rw[e];exact h.maps s blk hs,h.inj,h.l6⟩
theorem HR.drew{g:Gh}{st:St}{w:World}(h:HR g st w)(n:Nat):HR g st {w with drawn:=n}:=HR.congr (w:=w) rfl h
theorem Fr.drew(g:Gh)(w:World)(n:Nat):Fr g w g {w with drawn:=n}:=⟨rfl,rfl,rfl,qqf _,Gh.le.refl _,λ_ _ _=>rfl,λ_ _ h=>h⟩
theorem HR.frame{g:Gh}{st:St}{w:World}(h:HR g st w)(T:Nat)(D:List (Nat×List Nat)){R nR:Nat}(b:R<2^(128*nR)):HR g {st with T:=T,D:=D,R:=R,nR:=nR} w:=⟨h.S,h.nS,h.Slt,h.Mlt,b,h.top,h.iV,h.cells,h.rows,h.maps,h.inj,h.l6⟩
theorem Ab{g:Gh}{st:St}{w:World}(h:HR g st w){b:Nat}(o:Own g b):b<w.heap.size:=by
 rcases o with⟨s,base,z,room,hs⟩|⟨s,hs⟩;·obtain⟨c,e,fr,hc⟩:=h.cells s b base z room hs;exact(qqs.1 hc.heap).1
 ·obtain⟨o,ho,_⟩:=h.maps s b hs;exact(qqs.1 ho).1
theorem jL{g:Gh}{st:St}{w:World}(h:HR g st w){s:Nat}(hs:st.nM<=s):g.rho s=.free:=by cases hr:g.rho s with|free=>rfl|_=>have:=h.top s (by rw[hr];simp);omega
theorem jW.mono{g g':Gh}(h:g.le g'){m:Nat}{o:Obj}(k:jW g m o):jW g' m o:=by
 obtain⟨c,nv,s,ws,es,clock,h1,h2,h3,p,b,q,r,t,d⟩:=k;refine⟨c,nv,s,ws,es,clock,h1,h2,h3,p,by rw[h.rho s (by rw[b];simp),b],q,r,t,λi hi=>⟨(d i hi).1.mono h,?_⟩⟩;have:=(d i hi).2;unfold uG at*;split;·rename_i h0;rw[qzb h0]at this;exact this.mono h
 ·rename_i h0;rw[qzc h0]at this;obtain⟨vs,e,f,l⟩:=this;exact⟨vs,e,f,λj hj=>(l j hj).mono h⟩
def Gh.put(g:Gh)(s:Nat)(i:Info):Gh:={g with rho:=λt=>if t=s then i else g.rho t}
theorem Gh.bK(g:Gh)(s:Nat)(i:Info)(t:Nat):(g.put s i).rho t=if t=s then i else g.rho t:=rfl
theorem Gh.lX{g:Gh}{s:Nat}(i:Info)(h:g.rho s=.free):g.le (g.put s i):=⟨λt ht=>by rw[Gh.bK,qzc (λ(e:t=s)=>ht (by rw[e];exact h))],qqf _,λ_ _=>rfl,rfl⟩
theorem wP{M n s z:Nat}(c:Nat)(b:M<2^(128*n))(h:s+z<=n):Live (ad M n c) s z↔Live M s z:=by
 constructor<;>rintro⟨o,ho,d⟩<;>refine⟨o,ho,?_⟩;·rwa[dM _ _ b,qzb oqo]at d
 ·rwa[dM _ _ b,qzb oqo]
section
variable {g:Gh}{st:St}{w:World}
theorem HR.grown(h:HR g st w){i:Info}{cw:Nat}(A:cw<2^(128*(i.size+1))){w':World}(_hi:i≠.free)(hold:∀s blk base z room c e fr,g.rho s=.cells blk base z room->qw g st.M w s blk base z room c e fr->∃f d l,w'.heap[blk]? =some (.cells f d l)/\f.size=c.size/\(∀i,i<f.size->(f.getD i undef).oneCell'=true)/\(Live st.M s z->f=c/\l=fr))(D:∀s blk,g.rho s=.map blk->w'.heap[blk]? =w.heap[blk]?)(p:∀blk base z room,i=.cells blk base z room->(∃c e fr,qw (g.put st.nM i) (ad st.M st.nM cw) w' st.nM blk base z room c e fr)/\∀s base' z' room',g.rho s=.cells blk base' z' room'->¬Live st.M s z')(F:∀ws,i=.row ws->∀j,j<ws.length->gt cw j=ws.getD j 0)(hm:∀blk,i=.map blk->(∃o,w'.heap[blk]? =some o/\jW (g.put st.nM i) (gt cw 0) o)/\∀s,g.rho s≠.map blk):HR (g.put st.nM i) {st with M:=ad st.M st.nM cw,nM:=st.nM+i.size+1} w':=by
 have r:g.rho st.nM=.free:=jL h (qqf _);have hle:=Gh.lX i r;have H:∀s,g.rho s≠.free->s≠st.nM:=λs hs e=>hs (e▸r);have q:∀s,g.rho s≠.free->∀o,o<=(g.rho s).size->gt (ad st.M st.nM cw) (s+o)=gt st.M (s+o):=λs hs o ho=>by have:=h.top s hs;rw[dM _ _ h.Mlt,qzb oqo]
 refine⟨h.S,h.nS,h.Slt,by have:=ic h.Mlt A;rwa[<-jqp]at this,h.Rlt,?_,?_,?_,?_,?_,?_,?_⟩
 ·intro s hs;rw[Gh.bK]at hs⊢;split;·rename_i e;subst e;dsimp only;omega
  ·rename_i e;rw[qzc e]at hs;have:=h.top s hs;dsimp only;omega
 ·intro s s' C hs b;rw[Gh.bK]at hs b⊢;by_cases e:s=st.nM;·subst e;rw[qzc oqo]at b;have:=h.top s' b;omega
  ·rw[qzc e]at hs⊢;by_cases d:s'=st.nM;·subst d;exact h.top s hs
   ·rw[qzc d]at b;exact h.iV s s' C hs b
 ·intro s blk base z room hs;rw[Gh.bK]at hs;by_cases e:s=st.nM;·subst e;rw[qzb rfl]at hs;exact(p _ _ _ _ hs).1
  ·rw[qzc e]at hs;obtain⟨c,t,fr,hc⟩:=h.cells s blk base z room hs;obtain⟨f,G,l,h1,h2,h3,m⟩:=hold s blk base z room c t fr hs hc;have ht:=h.top s (by rw[hs];simp);rw[hs]at ht;refine⟨f,G,l,h1,by rw[h2,hc.size],hc.room,h3,λo ho=>?_,λhl=>?_⟩
   ·rw[q s (by rw[hs];simp) o (by rw[hs];exact qzs ho)];by_cases hz:gt st.M (s+o)=0;·rw[hz];exact .unk _ (h3 _ (by rw[h2,hc.size];have:=hc.room;omega))
    ·rw[(m ⟨o,ho,hz⟩).1];exact(hc.vr o ho).mono hle
   ·have k:=(wP cw h.Mlt (qzs ht)).1 hl;rw[(m k).1,(m k).2];exact hc.thaw k
 ·intro s ws hs j hj;rw[Gh.bK]at hs;by_cases e:s=st.nM;·subst e;rw[qzb rfl]at hs;rw[dM _ _ h.Mlt,qzc oqo,show st.nM+j-st.nM=j by omega];exact F ws hs j hj
  ·rw[qzc e]at hs;rw[q s (by rw[hs];simp) j (by rw[hs];exact qzs hj)];exact h.rows s ws hs j hj
 ·intro s blk hs;rw[Gh.bK]at hs;by_cases e:s=st.nM;·subst e;rw[qzb rfl]at hs;rw[dM _ _ h.Mlt,qzc oqo,jzj];exact(hm blk hs).1
  ·rw[qzc e]at hs;obtain⟨o,ho,E⟩:=h.maps s blk hs;refine⟨o,by rw[D s blk hs];exact ho,?_⟩;have:=q s (by rw[hs];simp) 0 oqo;rw[qzz]at this;rw[this];exact E.mono hle
 ·intro s s' blk base z room base' z' room' u hs b hl k;rw[Gh.bK]at hs b;by_cases e:s=st.nM;·subst e;rw[qzc (Ne.symm u)]at b;rw[qzb rfl]at hs;have ht:=h.top s' (by rw[b];simp);rw[b]at ht;exact(p _ _ _ _ hs).2 _ _ _ _ b ((wP cw h.Mlt (qzs ht)).1 k)
  ·rw[qzc e]at hs;have ht:=h.top s (by rw[hs];simp);rw[hs]at ht;have y:=(wP cw h.Mlt (qzs ht)).1 hl;by_cases d:s'=st.nM;·subst d;rw[qzb rfl]at b;exact(p _ _ _ _ b).2 _ _ _ _ hs y
   ·rw[qzc d]at b;have x:=h.top s' (by rw[b];simp);rw[b]at x;exact h.inj s s' blk base z room base' z' room' u hs b y ((wP cw h.Mlt (qzs x)).1 k)
 ·intro s s' blk hs b;rw[Gh.bK]at hs b;by_cases e:s=st.nM
  ·subst e;rw[qzb rfl]at hs;by_cases d:s'=st.nM;·exact d.symm
   ·rw[qzc d]at b;exact absurd b ((hm blk hs).2 s')
  ·rw[qzc e]at hs;by_cases d:s'=st.nM;·subst d;rw[qzb rfl]at b;exact absurd hs ((hm blk b).2 s)
   ·rw[qzc d]at b;exact h.l6 s s' blk hs b
theorem HR.load(h:HR g st w){s blk base z room o:Nat}(hr:g.rho s=.cells blk base z room)(ho:o<z):∃v,w.cell? ⟨blk,base+o,none⟩=some v/\VR g (gt st.M (s+o)) v:=by
 obtain⟨c,t,fr,hc⟩:=h.cells s blk base z room hr;have b:base+o<c.size:=by have:=hc.size;have:=hc.room;omega
 refine⟨c[base+o],by simp[World.cell?,hc.heap,b],?_⟩;have:=hc.vr o ho;rwa[qqg,jqd b,qzm]at this
end
end Ev
namespace Ev
theorem jX{w:World}{o x:Obj}{b:Nat}(h:w.heap[b]? =some x):(w.alloc o).heap[b]? =some x:=by have c:=(qqs.1 h).1;show(w.heap.push o)[b]? =some x;rw[Array.getElem?_push,qzc oqo];exact h
theorem yG(w:World)(o:Obj):(w.alloc o).heap[w.heap.size]? =some o:=by show(w.heap.push o)[w.heap.size]? =some o;simp
theorem rW{cw n:Nat}(h:cw<2^(128*n)):cw<2^(128*(n+1)):=qzj h (Nat.pow_le_pow_right oqo oqo)
section
variable {g:Gh}{st:St}{w:World}
theorem Fr.alloc(h:HR g st w)(o:Obj){i:Info}(hi:∀b base z room,i=.cells b base z room->b=w.heap.size)(hm:∀b,i=.map b->b=w.heap.size):Fr g w (g.put st.nM i) (w.alloc o):=by
 refine⟨rfl,rfl,rfl,by show _<=(w.heap.push o).size;simp,Gh.lX i (jL h (qqf _)),λb c _=>?_,λb c ho=>?_⟩;·rw[jqd c];exact jX (jqd c)
 ·rcases ho with⟨s,base,z,room,hs⟩|⟨s,hs⟩
  ·rw[Gh.bK]at hs;split at hs;·have:=hi _ _ _ _ hs;omega
   ·exact .inl ⟨s,base,z,room,hs⟩
  ·rw[Gh.bK]at hs;split at hs;·have:=hm _ hs;omega
   ·exact .inr ⟨s,hs⟩
theorem HR.alloc(h:HR g st w)(c:Array Value)(e:TypeId)(fr:Nat×Nat){n cw:Nat}(hn:n<=c.size)(m:cw<2^(128*n))(hv:∀i,i<n->VR g (gt cw i) (c.getD i undef))(one:∀i,i<c.size->(c.getD i undef).oneCell'=true)(thaw:pK fr c.size):HR (g.put st.nM (.cells w.heap.size 0 n c.size)) {st with M:=ad st.M st.nM cw,nM:=st.nM+n+1} (w.alloc (.cells c e fr))/\Fr g w (g.put st.nM (.cells w.heap.size 0 n c.size)) (w.alloc (.cells c e fr)):=by
 refine⟨?_,Fr.alloc h _ (λb base z room d=>by injection d with h1;exact h1.symm) (λb d=>by cases d)⟩;refine HR.grown h (i:=.cells w.heap.size 0 n c.size) (rW m) (by simp) ?_ ?_ ?_ (λws hw=>by cases hw) (λb d=>by cases d);·intro s blk base z room f j k _ hc;exact⟨f,j,k,jX hc.heap,rfl,hc.one,λ_=>⟨rfl,rfl⟩⟩
 ·intro s blk hs;obtain⟨o,ho,_⟩:=h.maps s blk hs;rw[jX ho,ho]
 ·intro blk base z room hi;injection hi with h1 h2 h3 l;subst h1;subst h2;subst h3;subst l;refine⟨⟨c,e,fr,yG _ _,by omega,hn,one,λo ho=>?_,λ_=>thaw⟩,λs base' z' room' hs=>?_⟩;·rw[dM _ _ h.Mlt,qzc oqo,show st.nM+o-st.nM=o by omega,qja];exact(hv o ho).mono (Gh.lX _ (jL h (qqf _)))
  ·exact absurd (Ab h (.inl ⟨s,base',z',room',hs⟩)) oqo
theorem HR.push(h:HR g st w)(o:Obj):HR g st (w.alloc o)/\Fr g w g (w.alloc o):=by
 refine⟨⟨h.S,h.nS,h.Slt,h.Mlt,h.Rlt,h.top,h.iV,λs blk base z room hs=>?_,h.rows,λs blk hs=>?_,h.inj,h.l6⟩,⟨rfl,rfl,rfl,by show _<=(w.heap.push o).size;simp,Gh.le.refl _,λb d _=>?_,λ_ _ h=>h⟩⟩;·obtain⟨c,e,fr,hc⟩:=h.cells s blk base z room hs;exact⟨c,e,fr,jX hc.heap,hc.size,hc.room,hc.one,hc.vr,hc.thaw⟩
 ·obtain⟨x,f,hm⟩:=h.maps s blk hs;exact⟨x,jX f,hm⟩
 ·rw[jqd d];exact jX (jqd d)
theorem HR.row(h:HR g st w)(ws:List Nat){cw:Nat}(j:cw<2^(128*ws.length))(hv:∀i,i<ws.length->gt cw i=ws.getD i 0):HR (g.put st.nM (.row ws)) {st with M:=ad st.M st.nM cw,nM:=st.nM+ws.length+1} w/\Fr g w (g.put st.nM (.row ws)) w:=by
 refine⟨HR.grown h (i:=.row ws) (rW j) (by simp) ?_ (λ_ _ _=>rfl) (λ_ _ _ _ hi=>by cases hi) ?_ (λb f=>by cases f),?_⟩;·intro s blk base z room c d e _ hc;exact⟨c,d,e,hc.heap,rfl,hc.one,λ_=>⟨rfl,rfl⟩⟩
 ·intro k hw;injection hw with hw;subst hw;exact hv
 ·refine⟨rfl,rfl,rfl,qqf _,Gh.lX _ (jL h (qqf _)),λ_ _ _=>rfl,λb _ ho=>?_⟩;rcases ho with⟨s,base,z,room,hs⟩|⟨s,hs⟩
  ·rw[Gh.bK]at hs;split at hs;·cases hs
   ·exact .inl ⟨s,base,z,room,hs⟩
  ·rw[Gh.bK]at hs;split at hs;·cases hs
   ·exact .inr ⟨s,hs⟩
theorem HR.kill(h:HR g st w){s blk base z room:Nat}(hr:g.rho s=.cells blk base z room):HR g {st with M:=up st.M s z 0} w:=by
 have hz:(0:Nat)<2^(128*z):=Nat.pow_pos oqo;have ht:=h.top s (by rw[hr];simp);rw[hr]at ht;have far:∀s',s'≠s->g.rho s'≠.free->∀o,o<=(g.rho s').size->gt (up st.M s z 0) (s'+o)=gt st.M (s'+o):=λs' d hf o ho=>by
  rw[lT _ _ _ hz,qzc];rcases Nat.lt_or_gt_of_ne d with A|y;·have:=h.iV s' s A hf (by rw[hr];simp);omega
  ·have:=h.iV s s' y (by rw[hr];simp) hf;rw[hr]at this;have e:(Info.cells blk base z room).size=z:=rfl;omega
 have dead:∀o,o<z->gt (up st.M s z 0) (s+o)=0:=λo ho=>by rw[lT _ _ _ hz,qzb oqo,vW]
 have live:∀s' z',s'≠s->(∃b base r,g.rho s'=.cells b base z' r)->Live (up st.M s z 0) s' z'->Live st.M s' z':=by rintro s' z' j⟨b,ba,r,e⟩⟨o,ho,f⟩;refine⟨o,ho,?_⟩;rwa[far s' j (by rw[e];simp) o (by rw[e];exact qzs ho)]at f
 have k:¬Live (up st.M s z 0) s z:=by rintro⟨o,ho,f⟩;exact f (dead o ho)
 refine⟨h.S,h.nS,h.Slt,yM h.Mlt (qzs ht) hz,h.Rlt,h.top,h.iV,?_,?_,?_,?_,h.l6⟩
 ·intro s' x base' z' room' d;obtain⟨c,e,fr,hc⟩:=h.cells s' x base' z' room' d;refine⟨c,e,fr,hc.heap,hc.size,hc.room,hc.one,λo ho=>?_,λhl=>?_⟩
  ·by_cases es:s'=s;·subst es;rw[hr]at d;injection d with _ _ l _;rw[dead o oqo];exact .unk _ (hc.one _ (by have:=hc.size;have:=hc.room;omega))
   ·rw[far s' es (by rw[d];simp) o (by rw[d];exact qzs ho)];exact hc.vr o ho
  ·by_cases es:s'=s;·subst es;rw[hr]at d;injection d with _ _ l _;subst l;exact absurd hl k
   ·exact hc.thaw (live s' z' es ⟨_,_,_,d⟩ hl)
 ·intro s' ws d i hi;have es:s'≠s:=by rintro rfl;rw[hr]at d;cases d
  show gt (up st.M s z 0) (s'+i)=_;rw[far s' es (by rw[d];simp) i (by rw[d];exact qzs hi)];exact h.rows s' ws d i hi
 ·intro s' b d;have es:s'≠s:=by rintro rfl;rw[hr]at d;cases d
  have:=far s' es (by rw[d];simp) 0 (qqy _);rw[qzz]at this;show∃o,_/\jW g (gt (up st.M s z 0) s') o;rw[this];exact h.maps s' b d
 ·intro s1 s2 b t q E u z2 F j h1 h2 m p;have C:s1≠s:=by rintro rfl;rw[hr]at h1;injection h1 with _ _ e _;subst e;exact k m
  have D:s2≠s:=by rintro rfl;rw[hr]at h2;injection h2 with _ _ e _;subst e;exact k p
  exact h.inj s1 s2 b t q E u z2 F j h1 h2 (live s1 q C ⟨_,_,_,h1⟩ m) (live s2 z2 D ⟨_,_,_,h2⟩ p)
def spl(c:Array Value)(o:Nat)(vs:List Value):Array Value:=(c.toList.take o++vs++c.toList.drop (o+vs.length)).toArray
theorem Ef(c:Array Value){o:Nat}{vs:List Value}(h:o+vs.length<=c.size):(spl c o vs).size=c.size:=by simp[spl];omega
theorem pX(c:Array Value){o:Nat}{vs:List Value}(h:o+vs.length<=c.size)(i:Nat):(spl c o vs).getD i undef=if o<=i/\i<o+vs.length then vs.getD (i-o) undef else c.getD i undef:=by
 have hl:(c.toList.take o).length=o:=by simp;omega
 rw[qqg,spl,jxy,List.append_assoc];by_cases h1:i<o;·rw[qzf oqo,qzc oqo,qzw,qzb h1,qjf,<-qqg]
 ·rw[qze oqo,hl];by_cases h2:i<o+vs.length;·rw[qzf oqo,qzb oqo,qqm]
  ·rw[qze oqo,qzc oqo,jzq,show o+vs.length+(i-o-vs.length)=i by omega,qjf,<-qqg]
theorem uu(P:Program)(b o:Nat)(t:TypeId)(d:Nat×Nat):∀(vs:List Value)(i:Nat)(c:Array Value)(w:World),w.heap[b]? =some (.cells c t d)->pK d c.size->o+i+vs.length<=c.size->(∀v∈vs,v.oneCell'=true)->(storeCells ⟨b,o,none⟩ vs i).run P w=.ok () (w.setRow b (spl c (o+i) vs))
 |[],i,c,w,f,_,_,_=>by simp only[spl,storeCells,List.append_nil,jxp,qzz,List.take_append_drop,jzg];rw[setRow_self w b c t d f];rfl|v::rest,i,c,w,f,j,hl,h1=>by
  have hi:o+i<c.size:=by simp at hl;omega
  have l:(⟨b,o,none⟩:Addr).add i=⟨b,o+i,none⟩:=by unfold Addr.add;split<;>simp_all
  have p:w.cell? ⟨b,o+i,none⟩=some c[o+i]:=by simp[World.cell?,f,hi]
  have q:w.frozen? ⟨b,o+i,none⟩=false:=by
   obtain⟨h,k⟩:=d;simp only[World.frozen?,f];have u:h=k\/c.size<=h:=j;cases m:(decide (h<=o+i)&&decide (o+i<k));·rfl
   ·simp at m;omega
  have r:(store ((⟨b,o,none⟩:Addr).add i) v).run P w=.ok () (w.setRow b (c.setIfInBounds (o+i) v)):=by rw[l,run_store P w _ v _ (h1 v (by simp)),p];simp[q,setCell_eq_setRow w b (o+i) c t d v f]
  have ih:=uu P b o t d rest (i+1) (c.setIfInBounds (o+i) v) (w.setRow b (c.setIfInBounds (o+i) v)) (setRow_heap w b c _ t _ f) (by simpa using j) (by simp at hl⊢;omega) (λx s=>h1 x (by simp[s]));simp only[storeCells,qjm,r,qjl,ih,setRow_setRow];unfold spl;congr 3;have e:=list_seg_step c.toList (o+i) v rest (by simp at hl⊢;omega);simpa [Array.toList_setIfInBounds,jqp]using e
theorem qw.qX{M s blk base z room:Nat}{c:Array Value}{e:TypeId}{fr:Nat×Nat}(hc:qw g M w s blk base z room c e fr)(b:Array Value):(w.setRow blk b).heap[blk]? =some (.cells b e fr):=setRow_heap w blk c b e fr hc.heap
theorem Fq{vs:List Value}{v:Value}(h:v∈vs):∃i,i<vs.length/\vs.getD i undef=v:=by obtain⟨i,hi,e⟩:=List.getElem_of_mem h;exact⟨i,hi,by simp[hi,e]⟩
theorem HR.store(h:HR g st w)(P:Program){s blk base z room o n cw:Nat}(hr:g.rho s=.cells blk base z room)(hl:Live st.M s z)(ho:o+n<=z)(D:cw<2^(128*n))(vs:List Value)(hn:vs.length=n)(hv:∀i,i<n->VR g (gt cw i) (vs.getD i undef)): ∃w',(storeCells ⟨blk,base+o,none⟩ vs).run P w=.ok () w'/\HR g {st with M:=up st.M (s+o) n cw} w'/\Fr g w g w':=by
 obtain⟨c,e,fr,hc⟩:=h.cells s blk base z room hr;have n0:=hc.size;have m0:=hc.room;have hlen:base+o+vs.length<=c.size:=oqo;have e0:∀v∈vs,v.oneCell'=true:=λv hm=>by obtain⟨i,hi,e⟩:=Fq hm;have:=(hv i oqo).one;rwa[e]at this
 have G:=uu P blk (base+o) e fr vs 0 c w hc.heap (hc.thaw hl) oqo e0;rw[qzz]at G;have ht:=h.top s (by rw[hr];simp);rw[hr]at ht;have F:(Info.cells blk base z room).size=z:=rfl;rw[F]at ht;have t:=Ef c hlen;have far:∀s',s'≠s->g.rho s'≠.free->∀j,j<=(g.rho s').size->gt (up st.M (s+o) n cw) (s'+j)=gt st.M (s'+j):=λs' t hf j hj=>by
  rw[lT _ _ _ D,qzc];rcases Nat.lt_or_gt_of_ne t with Y|W;·have:=h.iV s' s Y hf (by rw[hr];simp);omega
  ·have:=h.iV s s' W (by rw[hr];simp) hf;rw[hr,F]at this;omega
 have live:∀s' z' b base r,g.rho s'=.cells b base z' r->Live (up st.M (s+o) n cw) s' z'->Live st.M s' z':=by
  rintro s' z' b ba r y Z;by_cases es:s'=s;·subst es;rw[hr]at y;injection y with _ _ p _;subst p;exact hl
  ·obtain⟨j,hj,V⟩:=Z;exact⟨j,hj,by rwa[far s' es (by rw[y];simp) j (by rw[y];exact qzs hj)]at V⟩
 refine⟨_,G,⟨h.S,h.nS,h.Slt,yM h.Mlt (show s+o+n<=st.nM by omega) D,h.Rlt,h.top,h.iV,?_,?_,?_,?_,h.l6⟩,⟨rfl,rfl,rfl,by simp,Gh.le.refl _,λb _ T=>?_,λ_ _ h=>h⟩⟩
 ·intro s' A base' z' room' f;obtain⟨c2,p,C,l⟩:=h.cells s' A base' z' room' f;by_cases m:A=blk
  ·subst m;have R:c2=c/\p=e/\C=fr:=by have:=l.heap.symm.trans hc.heap;injection this with this;injection this with a b d;exact⟨a,b,d⟩
   obtain⟨rfl,rfl,rfl⟩:=R;refine⟨spl c2 (base+o) vs,p,C,hc.qX _,by rw[t];exact l.size,l.room,λi hi=>?_,λj hj=>?_,λ_=>by rw[t];exact hc.thaw hl⟩
   ·rw[pX c2 hlen];rw[t]at hi;by_cases q:base+o<=i/\i<base+o+vs.length;·rw[qzb q];exact(hv _ oqo).one
    ·rw[qzc q];exact hc.one i hi
   ·by_cases es:s'=s
    ·subst es;rw[hr]at f;injection f with _ K L N;subst K;subst L;subst N;rw[pX c2 hlen];show VR g (gt (up st.M (s'+o) n cw) (s'+j)) _;rw[lT _ _ _ D];by_cases l0:o<=j/\j<o+n;·rw[qzb oqo,qzb oqo,show s'+j-(s'+o)=j-o by omega,show base+j-(base+o)=j-o by omega];exact hv _ oqo
     ·rw[qzc oqo,qzc oqo];exact hc.vr j hj
    ·have U:¬Live st.M s' z':=λE=>h.inj s s' A base z room base' z' room' (Ne.symm es) hr f hl E;show VR g (gt (up st.M (s+o) n cw) (s'+j)) _;rw[far s' es (by rw[f];simp) j (by rw[f];exact qzs hj)];have:gt st.M (s'+j)=0:=by cases hz:gt st.M (s'+j)with|zero=>rfl|succ k=>exact absurd ⟨j,hj,by rw[hz];simp⟩ U
     rw[this];refine .unk _ ?_;have X:base'+j<c2.size:=by have:=l.size;have:=l.room;omega
     rw[pX c2 hlen];by_cases q:base+o<=base'+j/\base'+j<base+o+vs.length;·rw[qzb q];exact(hv _ oqo).one
     ·rw[qzc q];exact hc.one _ X
  ·refine⟨c2,p,C,by rw[setRow_other _ _ _ _ m];exact l.heap,l.size,l.room,l.one,λj hj=>?_,λE=>l.thaw (live s' z' _ _ _ f E)⟩;have es:s'≠s:=by rintro rfl;rw[hr]at f;injection f with a;exact m a.symm
   show VR g (gt (up st.M (s+o) n cw) (s'+j)) _;rw[far s' es (by rw[f];simp) j (by rw[f];exact qzs hj)];exact l.vr j hj
 ·intro s' ws f i hi;have es:s'≠s:=by rintro rfl;rw[hr]at f;cases f
  show gt (up st.M (s+o) n cw) (s'+i)=_;rw[far s' es (by rw[f];simp) i (by rw[f];exact qzs hi)];exact h.rows s' ws f i hi
 ·intro s' b f;have es:s'≠s:=by rintro rfl;rw[hr]at f;cases f
  have:=far s' es (by rw[f];simp) 0 (qqy _);rw[qzz]at this;obtain⟨x,u,hm⟩:=h.maps s' b f;refine⟨x,?_,by show jW g (gt (up st.M (s+o) n cw) s') x;rw[this];exact hm⟩;rw[setRow_other _ _ _ _ (λm=>?_)];·exact u
  ·subst m;rw[hc.heap]at u;injection u with u;subst u;obtain⟨_,_,_,_,_,_,_,_,_,_,_,S,_⟩:=hm;cases S
 ·intro s1 s2 b I H i0 J z2 j0 d0 h1 h2 l1 l2;exact h.inj s1 s2 b I H i0 J z2 j0 d0 h1 h2 (live s1 H _ _ _ h1 l1) (live s2 z2 _ _ _ h2 l2)
 ·refine setRow_other _ _ _ _ (λm=>T ?_);subst m;exact .inl ⟨s,base,z,room,hr⟩
end
end Ev
