/- Joint text: JC. By an AI agent. -/
import Derived.Test.YtkkeocnnecegbaaGreatDoorQ17
import Derived.Test.YtkkeocnnecegbaaGreatDoorQ03
import Derived.Test.YtkkeocnnecegbaaGreatDoorQ05
import Derived.Test.YtkkeocnnecegbaaGreatDoorQ15
set_option linter.all false
set_option maxRecDepth 100000
set_option maxHeartbeats 64000000
namespace Go.Proofs.YtkkeocnnecegbaaGreatDoor
open Go.RowKit
def gU (w:World) (A:Option Addr) (ks:List Int):Prop:=ks=[]∨∃ b o,A=some ⟨b,o,none⟩∧∀ i k,ks[i]? = some k→w.cell? ⟨b,o+i,none⟩=some (.int .i64 k)
def eO (w:World) (v:Value) (ks:List Int):Prop:=∃ A c,v=.slice A ks.length c∧ks.length≤c∧gU w A ks
abbrev PV:=GN×Value
def gq (g:PV):Value:=.agg #[.int .u8 g.1.kind,.string ⟨g.1.text.toArray⟩,.int .i64 g.1.n,.int .i64 g.1.at',g.2]
def nodeAt (w:World) (b o:Nat) (g:PV):Prop:=w.cell? ⟨b,o,none⟩=some (.int .u8 g.1.kind)∧w.cell? ⟨b,o+1,none⟩=some (.string ⟨g.1.text.toArray⟩)∧w.cell? ⟨b,o+2,none⟩=some (.int .i64 g.1.n)∧w.cell? ⟨b,o+3,none⟩=some (.int .i64 g.1.at')∧w.cell? ⟨b,o+4,none⟩=some g.2∧eO w g.2 g.1.kids
def bg (w:World) (A:Option Addr) (l:List PV):Prop:=l=[]∨∃ b o,A=some ⟨b,o,none⟩∧∀ i g,l[i]? = some g→nodeAt w b (o+i*5) g
def gns (l:List PV):List GN:=l.map (·.1)
theorem gU.below {w w':World} {A:Option Addr} {ks:List Int} (h:gU w A ks) (hb:Below w.heap.size w w'):gU w' A ks:=by
 rcases h with h | ⟨b,o,e,h⟩
 ·exact Or.inl h
 ·exact Or.inr ⟨b,o,e,fun i k hi=>(hb.cell (p:=⟨b,_,none⟩) (aa (h i k hi))).trans (h i k hi)⟩
theorem eO.below {w w':World} {v:Value} {ks:List Int} (h:eO w v ks) (hb:Below w.heap.size w w'):eO w' v ks:=by
 obtain ⟨A,c,e,hc,h⟩:=h
 exact⟨A,c,e,hc,h.below hb⟩
theorem nodeAt.below {w w':World} {b o:Nat} {g:PV} (h:nodeAt w b o g) (hb:Below w.heap.size w w'):nodeAt w' b o g :=
 ⟨(hb.cell (p:=⟨b,_,none⟩) (aa h.1)).trans h.1,(hb.cell (p:=⟨b,_,none⟩) (aa h.2.1)).trans h.2.1,(hb.cell (p:=⟨b,_,none⟩) (aa h.2.2.1)).trans h.2.2.1,(hb.cell (p:=⟨b,_,none⟩) (aa h.2.2.2.1)).trans h.2.2.2.1,(hb.cell (p:=⟨b,_,none⟩) (aa h.2.2.2.2.1)).trans h.2.2.2.2.1,h.2.2.2.2.2.below hb⟩
theorem bg.below {w w':World} {A:Option Addr} {l:List PV} (h:bg w A l) (hb:Below w.heap.size w w'):bg w' A l:=by
 rcases h with h | ⟨b,o,e,h⟩
 ·exact Or.inl h
 ·exact Or.inr ⟨b,o,e,fun i g hi=>(h i g hi).below hb⟩
theorem bg.at {w:World} {A:Option Addr} {l:List PV} {i:Nat} {g:PV} (h:bg w A l) (hi:l[i]? = some g):∃ b o,A=some ⟨b,o,none⟩∧nodeAt w b (o+i*5) g:=by
 rcases h with rfl | ⟨b,o,e,h⟩
 ·simp at hi
 ·exact⟨b,o,e,h i g hi⟩
theorem take_len {α:Type} (l:List α):l.take l.length=l:=List.take_length
theorem Ji {w:World} {v u:Value} {ks ls:List Int} (h:eO w v ks) (k:eO w u ls) (h1:ks.length≤1000000) (h2:ls.length≤1000000) :
  Calls Tryz.prog 48 #[v,u] w fun e w'=>e=.returned (.bool (decide (ks=ls)))∧Below w.heap.size w w':=by
 obtain ⟨A,c,rfl,_,h⟩:=h
 obtain ⟨A2,c2,rfl,_,k⟩:=k
 by_cases hn:ks.length=ls.length
 ·rcases h with rfl | ⟨b,o,rfl,h⟩
  ·have:ls=[]:=List.length_eq_zero_iff.1 hn.symm
   subst this
   refine (Tryz.slices_Equal_int_empty A A2 c 0 c2 w (by omega)).mono ?_
   rintro e w' ⟨rfl,rfl⟩
   exact⟨rfl,Below.refl _ _⟩
  ·rcases k with rfl | ⟨b2,o2,rfl,k⟩
   ·have:ks=[]:=List.length_eq_zero_iff.1 hn
    subst this
    refine (Tryz.slices_Equal_int_empty (some ⟨b,o,none⟩) A2 c 0 c2 w (by omega)).mono ?_
    rintro e w' ⟨rfl,rfl⟩
    exact⟨rfl,Below.refl _ _⟩
   ·refine (Tryz.slices_Equal_int b o ks.length c b2 o2 ls.length c2 ks ls w (Nat.le_refl _) (Nat.le_refl _) (by omega) (by omega) (fun j hj=>?_) (fun j hj=>?_)).mono ?_
    ·rw [h j _ (List.getElem?_eq_getElem hj),List.getD_eq_getElem?_getD,List.getElem?_eq_getElem hj]; rfl
    ·rw [k j _ (List.getElem?_eq_getElem hj),List.getD_eq_getElem?_getD,List.getElem?_eq_getElem hj]; rfl
    ·rintro e w' ⟨rfl,q,rfl⟩
     rw [take_len,take_len]
     exact⟨by rw [Bool.beq_eq_decide_eq],⟨rfl,rfl,rfl,Nat.le_refl _,fun _ _=>rfl⟩⟩
 ·refine (Tryz.slices_Equal_int_lens A A2 ks.length c ls.length c2 w hn).mono ?_
  rintro e w' ⟨rfl,rfl⟩
  refine⟨?_,Below.refl _ _⟩
  rw [decide_eq_false (fun hh=>hn (by rw [hh]))]
theorem Gi (x y:PV) (w:World) (hx:eO w x.2 x.1.kids) (hy:eO w y.2 y.1.kids) (h1:x.1.kids.length≤1000000) (h2:y.1.kids.length≤1000000) :
  Calls Tryz.prog 47 #[gq x,gq y] w fun e w'=>e=.returned (.bool (decide (iP x.1 y.1)))∧Below w.heap.size w w':=by
 obtain ⟨⟨xk,xt,xn,xa,xs⟩,xv⟩:=x
 obtain ⟨⟨yk,yt,yn,ya,ys⟩,yv⟩:=y
 change eO w xv xs at hx
 change eO w yv ys at hy
 change xs.length≤1000000 at h1
 change ys.length≤1000000 at h2
 obtain ⟨A,c,rfl,hc,h⟩:=hx
 obtain ⟨A2,c2,rfl,hc2,k⟩:=hy
 have H:=Lib.hid h; have K:=Lib.hid k; have HC:=Lib.hid hc; have HC2:=Lib.hid hc2
 have H1:=Lib.hid h1; have H2:=Lib.hid h2
 clear h k hc hc2 h1 h2
 unfold gq
 have far:Below w.heap.size w ((w.alloc (.cells #[.int .u8 xk,.string ⟨xt.toArray⟩,.int .i64 xn,.int .i64 xa,.slice A xs.length c] 43)).alloc (.cells #[.int .u8 yk,.string ⟨yt.toArray⟩,.int .i64 yn,.int .i64 ya,.slice A2 ys.length c2] 43)):=((Below.refl _ _).alloc (Nat.le_refl _) _).alloc (by simp) _
 have FAR:=Lib.hid far
 clear far
 go_enter Tryz.func47,Tryz.ntmps47
 cases hk:((xk:Int) == (yk:Int)) with
 | false =>
  have hno:decide (iP ⟨xk,xt,xn,xa,xs⟩ ⟨yk,yt,yn,ya,ys⟩)=false:=decide_eq_false (fun hh=>by have:=hh.1; simp only at this; subst this; simp at hk)
  go_wp2_with fail
  go_ret
  exact⟨ed hno.symm,FAR.out⟩
 | true =>
  cases ht:(xt == yt) with
  | false =>
   have hno:decide (iP ⟨xk,xt,xn,xa,xs⟩ ⟨yk,yt,yn,ya,ys⟩)=false:=decide_eq_false (fun hh=>by have:=hh.2.1; simp only at this; subst this; simp at ht)
   go_wp2_with fail
   go_ret
   exact⟨ed hno.symm,FAR.out⟩
  | true =>
   cases hn:(xn == yn) with
   | false =>
    have hno:decide (iP ⟨xk,xt,xn,xa,xs⟩ ⟨yk,yt,yn,ya,ys⟩)=false:=decide_eq_false (fun hh=>by have:=hh.2.2.1; simp only at this; subst this; simp at hn)
    go_wp2_with fail
    go_ret
    exact⟨ed hno.symm,FAR.out⟩
   | true =>
    have hyes:decide (iP ⟨xk,xt,xn,xa,xs⟩ ⟨yk,yt,yn,ya,ys⟩)=decide (xs=ys):=by
     have e1:xk=yk:=by have:=eq_of_beq hk; omega
     have e2:xt=yt:=by simpa using ht
     have e3:xn=yn:=by simpa using hn
     simp [iP,e1,e2,e3]
    have HY:=Lib.hid hyes
    clear hyes
    go_wp2_with fail
    refine (Ji (ks:=xs) (ls:=ys) ⟨A,c,rfl,HC.out,H.out.below FAR.out⟩ ⟨A2,c2,rfl,HC2.out,K.out.below FAR.out⟩ H1.out H2.out).mono ?_
    rintro e w1 ⟨rfl,hb⟩
    go_wp2_with fail
    go_ret
    exact⟨ed HY.out.symm,FAR.out.trans (hb.mono (by simp; omega))⟩
theorem IM (args:Array Value) (W:World):(callFunc 47 args).run Tryz.prog W=.ok (.enter 47 args) W:=by kernel_rfl
theorem Az {a b:List GN} {i:Nat} (h:iE (a.take i) (b.take i)) {x y:GN} (hx:a[i]? = some x) (hy:b[i]? = some y) (hs:iP x y):iE (a.take (i+1)) (b.take (i+1)):=by
 have ha:=(List.getElem?_eq_some_iff.1 hx).1
 have hb:=(List.getElem?_eq_some_iff.1 hy).1
 refine⟨by simp only [List.length_take]; omega,fun j u v hu hv=>?_⟩
 by_cases hj:j<i
 ·refine h.2 j u v ?_ ?_
  ·rw [List.getElem?_take,if_pos hj]; rw [List.getElem?_take,if_pos (by omega)] at hu; exact hu
  ·rw [List.getElem?_take,if_pos hj]; rw [List.getElem?_take,if_pos (by omega)] at hv; exact hv
 ·by_cases hj2:j=i
  ·subst hj2
   rw [List.getElem?_take,if_pos (by omega),hx] at hu
   rw [List.getElem?_take,if_pos (by omega),hy] at hv
   injection hu with hu; injection hv with hv; subst hu hv; exact hs
  ·rw [List.getElem?_take,if_neg (by omega)] at hu; cases hu
noncomputable instance (a b:List GN):Decidable (iE a b):=Classical.propDecidable _
theorem jl {l:List PV} {i:Nat} {g:PV} (h:l[i]? = some g):(gns l)[i]? = some g.1:=by rw [gns,List.getElem?_map,h]; rfl
theorem dA (l:List PV):(gns l).length=l.length:=List.length_map ..
theorem Jq (A A2:Option Addr) (c c2:Nat) (l m:List PV) (w:World) (h:bg w A l) (k:bg w A2 m) (hl:l.length≤1000000) (hm:m.length≤1000000) (hkl:∀ g∈l,g.1.kids.length≤1000000) (hkm:∀ g∈m,g.1.kids.length≤1000000) :
  Calls Tryz.prog 46 #[.slice A l.length c,.slice A2 m.length c2,.func (.func 47) #[] #[]] w fun e w'=>e=.returned (.bool (decide (iE (gns l) (gns m))))∧Below w.heap.size w w':=by
 have H:=Lib.hid h; have K:=Lib.hid k; have HKL:=Lib.hid hkl; have HKM:=Lib.hid hkm
 clear h k hkl hkm
 obtain ⟨n,hn⟩:∃ n,n=l.length:=⟨_,rfl⟩
 obtain ⟨n2,hn2⟩:∃ n,n=m.length:=⟨_,rfl⟩
 have HN:=Lib.hid hn; have HN2:=Lib.hid hn2
 rw [← hn] at hl ⊢
 rw [← hn2] at hm ⊢
 clear hn hn2
 have e47:=fun W=>IM #[] W
 go_enter Tryz.func46,Tryz.ntmps46
 by_cases hnn:n=n2
 case neg =>
  have HNN:=Lib.hid hnn
  have hb:((n:Int) != (n2:Int))=true:=by simp; omega
  have hno:decide (iE (gns l) (gns m))=false:=decide_eq_false (fun hh=>hnn (by have:=hh.1; rw [dA,dA,← HN.out,← HN2.out] at this; exact this))
  have HNO:=Lib.hid hno
  clear hno hnn
  go_wp2_with fail
  go_ret
  exact⟨ed HNO.out.symm,Below.refl _ _⟩
 case pos =>
  subst hnn
  have hb:((n:Int) != (n:Int))=false:=by simp
  go_wp2_with fail
  have e5:(Tryz.prog.info? 43).map (fun i=>(i.zero,i.size,i.bytes))=some (some (.agg #[.int .u8 0,.string ⟨#[]⟩,.int .i64 0,.int .i64 0,.slice none 0 0]),5,64):=su
  go_loopg [17] n (fun gk v wr=>∃ i:Nat,i≤n∧n - i≤gk∧v=.int .i64 i∧Hid (Below w.heap.size w wr)∧Hid (iE ((gns l).take i) ((gns m).take i)))
  case atStart=>exact⟨0,Nat.zero_le _,Nat.le_refl _,rfl,Lib.hid (Below.refl _ _),Lib.hid ⟨rfl,fun j u v hu hv=>by simp at hu⟩⟩
  case round =>
   obtain ⟨i,hi,hgk,rfl,HB,HS⟩:=hrel
   by_cases hlt:i<n
   case neg =>
    have hieq:i=n:=by omega
    subst hieq
    have hyes:decide (iE (gns l) (gns m))=true:=decide_eq_true (by
     have:=HS.out
     have q1:(gns l).take i=gns l:=List.take_of_length_le (by rw [dA]; exact Nat.le_of_eq HN.out.symm)
     have q2:(gns m).take i=gns m:=List.take_of_length_le (by rw [dA]; exact Nat.le_of_eq HN2.out.symm)
     rw [q1,q2] at this
     exact this)
    have HY:=Lib.hid hyes
    clear hyes
    go_wp2_with fail
    go_ret
    exact⟨ed HY.out.symm,HB.out⟩
   case pos =>
    have hil:i<l.length:=by rw [← HN.out]; exact hlt
    have him:i<m.length:=by rw [← HN2.out]; exact hlt
    obtain ⟨x,hx⟩:∃ x,l[i]? = some x:=⟨_,List.getElem?_eq_getElem hil⟩
    obtain ⟨y,hy⟩:∃ y,m[i]? = some y:=⟨_,List.getElem?_eq_getElem him⟩
    obtain ⟨b,o,rfl,x0,x1,x2,x3,x4,x5⟩:=(H.out.below HB.out).at hx
    obtain ⟨b2,o2,rfl,y0,y1,y2,y3,y4,y5⟩:=(K.out.below HB.out).at hy
    have lb:=aa x0
    have lb2:=aa y0
    obtain ⟨A3,c3,hxv,hc3,hi3⟩:=x5
    obtain ⟨A4,c4,hyv,hc4,hi4⟩:=y5
    have hkx:=HKL.out x (List.mem_of_getElem? hx)
    have hky:=HKM.out y (List.mem_of_getElem? hy)
    rw [hxv] at x4
    rw [hyv] at y4
    have I3:=Lib.hid hi3; have I4:=Lib.hid hi4
    have C3:=Lib.hid hc3; have C4:=Lib.hid hc4
    have HX:=Lib.hid hx; have HYY:=Lib.hid hy
    clear hi3 hi4 hc3 hc4 hx hy hxv hyv
    go_wp2_with fail
    have far:Below wr.heap.size wr ((wr.alloc (.cells #[.int .u8 x.1.kind,.string ⟨x.1.text.toArray⟩,.int .i64 x.1.n,.int .i64 x.1.at',.slice A3 x.1.kids.length c3] 43)).alloc (.cells #[.int .u8 y.1.kind,.string ⟨y.1.text.toArray⟩,.int .i64 y.1.n,.int .i64 y.1.at',.slice A4 y.1.kids.length c4] 43)):=((Below.refl _ _).alloc (Nat.le_refl _) _).alloc (by simp) _
    refine (Gi (x.1,.slice A3 x.1.kids.length c3) (y.1,.slice A4 y.1.kids.length c4) _ ⟨A3,c3,rfl,C3.out,I3.out.below far⟩ ⟨A4,c4,rfl,C4.out,I4.out.below far⟩ hkx hky).mono ?_
    rintro e w1 ⟨rfl,hb1⟩
    have HB1:=Lib.hid (HB.out.trans ((far.mono (by have:=HB.out.size; omega)).trans (hb1.mono (by have:=HB.out.size; simp; omega))))
    clear far hb1
    cases hs:decide (iP x.1 y.1) with
    | false =>
     have hno:decide (iE (gns l) (gns m))=false:=decide_eq_false (fun hh=>(of_decide_eq_false hs) (hh.2 i _ _ (jl HX.out) (jl HYY.out)))
     have HNO:=Lib.hid hno
     clear hno hs
     go_wp2_with fail
     go_ret
     exact⟨ed HNO.out.symm,HB1.out⟩
    | true =>
     have HS2:=Lib.hid (Az HS.out (jl HX.out) (jl HYY.out) (of_decide_eq_true hs))
     clear hs HS
     go_wp2_with fail
     cases gk with
     | zero=>omega
     | succ gk =>
      go_roundg gk
      case measure=>omega
      case rel=>exact⟨i+1,by omega,by omega,by simp,HB1,HS2⟩
theorem Gp (A A2:Option Addr) (c c2:Nat) (l m:List PV) (w:World) (h:bg w A l) (k:bg w A2 m) (hl:l.length≤1000000) (hm:m.length≤1000000) (hkl:∀ g∈l,g.1.kids.length≤1000000) (hkm:∀ g∈m,g.1.kids.length≤1000000) :
  Calls Tryz.prog 22 #[.agg #[.slice A l.length c],.agg #[.slice A2 m.length c2]] w fun e w'=>e=.returned (.bool (decide (iE (gns l) (gns m))))∧Below w.heap.size w w':=by
 have far:Below w.heap.size w ((w.alloc (.cells #[.slice A l.length c] 24)).alloc (.cells #[.slice A2 m.length c2] 24)):=((Below.refl _ _).alloc (Nat.le_refl _) _).alloc (by simp) _
 have HC:=Lib.hid (Jq A A2 c c2 l m _ (h.below far) (k.below far) hl hm hkl hkm)
 have FAR:=Lib.hid far
 clear h k far hkl hkm
 go_enter Tryz.func22,Tryz.ntmps22
 go_wp2_with fail
 refine HC.out.mono ?_
 rintro e w1 ⟨rfl,hb⟩
 go_wp2_with fail
 go_ret
 exact⟨rfl,FAR.out.trans (hb.mono (by simp; omega))⟩
end Go.Proofs.YtkkeocnnecegbaaGreatDoor
namespace Go.Proofs.YtkkeocnnecegbaaGreatDoor
open Go.RowKit
def pvC (g:PV):List Value:=[.int .u8 g.1.kind,.string ⟨g.1.text.toArray⟩,.int .i64 g.1.n,.int .i64 g.1.at',g.2]
def eZ (l:List PV):List Value:=l.flatMap pvC
theorem yC (l:List PV):(eZ l).length=l.length*5:=by
 induction l with
 | nil=>rfl
 | cons m r ih=>simp only [eZ,List.flatMap_cons,List.length_append,List.length_cons] at ih ⊢; rw [ih]; simp [pvC]; omega
theorem nP:∀ (l:List PV) (i:Nat) (g:PV),l[i]? = some g→(eZ l)[i*5]? = some (.int .u8 g.1.kind)∧(eZ l)[i*5+1]? = some (.string ⟨g.1.text.toArray⟩)∧(eZ l)[i*5+2]? = some (.int .i64 g.1.n)∧(eZ l)[i*5+3]? = some (.int .i64 g.1.at')∧(eZ l)[i*5+4]? = some g.2
 | [],i,g,h=>by simp at h
 | m :: r,0,g,h=>by simp at h; subst h; exact⟨rfl,rfl,rfl,rfl,rfl⟩
 | m :: r,i+1,g,h=>by
  have ih:=nP r i g (by simpa using h)
  have e:∀ k,(eZ (m :: r))[(i+1)*5+k]? = (eZ r)[i*5+k]?:=fun k=>by
   show (pvC m ++ eZ r)[(i+1)*5+k]? = _
   rw [List.getElem?_append_right (by simp [pvC]; omega),show (i+1)*5+k - (pvC m).length=i*5+k by simp [pvC]; omega]
  have e0:=e 0
  simp only [Nat.add_zero] at e0
  rw [e0,e 1,e 2,e 3,e 4]
  exact ih
theorem bg.l6 {w:World} {base:Nat} {A:Option Addr} {c:Nat} {e:TypeId} {l:List PV} (h:w.ownsRow base e 5 (.slice A l.length c) l.length (eZ l)) (hk:∀ g∈l,eO w g.2 g.1.kids):bg w A l:=by
 by_cases h0:l=[]
 ·exact Or.inl h0
 ·have hpos:0<l.length:=List.length_pos_iff.2 h0
  obtain ⟨g,cap,hv,_,hlt⟩:=h.form hpos
  injection hv with hA hn hc
  subst hA
  refine Or.inr ⟨g,0,rfl,fun i x hi=>?_⟩
  subst hc
  have hil:=(List.getElem?_eq_some_iff.1 hi).1
  have e:∀ k,k<5→w.cell? ⟨g,0+i*5+k,none⟩=(eZ l)[i*5+k]?:=fun k hk=>by
   have:=h.cellAt (i*5+k) (by omega)
   rw [Nat.zero_add]; exact this
  obtain ⟨p0,p1,p2,p3,p4⟩:=nP l i x hi
  exact⟨(e 0 (by omega)).trans p0,(e 1 (by omega)).trans p1,(e 2 (by omega)).trans p2,(e 3 (by omega)).trans p3,(e 4 (by omega)).trans p4,hk x (List.mem_of_getElem? hi)⟩
end Go.Proofs.YtkkeocnnecegbaaGreatDoor
namespace Go.Proofs.YtkkeocnnecegbaaGreatDoor
open Go.RowKit
end Go.Proofs.YtkkeocnnecegbaaGreatDoor
namespace Go.Proofs.YtkkeocnnecegbaaGreatDoor
open Go.RowKit
end Go.Proofs.YtkkeocnnecegbaaGreatDoor
namespace Go.Proofs.YtkkeocnnecegbaaGreatDoor
open Go.RowKit
theorem GU {l:List UInt8} {c:UInt8} {r:List UInt8} (h:l=c :: r):isNameS l=(isLet c && !gZ l && aQ gY l == l.length):=by
 subst h; rfl
theorem FU (s:ByteArray) (h:s.size=0):s.toList=[]:=by
 rw [ByteArray.toList_eq]; exact List.eq_nil_of_length_eq_zero (by rw [bB]; exact h)
theorem Jp (s:ByteArray) (h:0<s.size):s.toList.isEmpty=false:=by
 rw [ByteArray.toList_eq]
 cases hl:s.data.toList with
 | nil=>have:=bB s; rw [hl] at this; simp at this; omega
 | cons _ _=>rfl
theorem Aq (s:ByteArray) (w:World) (hs:s.size≤1000000) :
  Calls Tryz.prog 86 #[.string s] w fun e w'=>e=.returned (.bool (isNameS s.data.toList))∧Below w.heap.size w w':=by
 by_cases h0:s.size=0
 ·have hv:isNameS s.data.toList=false:=by rw [List.eq_nil_of_length_eq_zero ((bB s).trans h0)]; rfl
  have HV:=Lib.hid hv
  have he:=FU s h0
  clear hv
  go_enter Tryz.func86,Tryz.ntmps86
  go_wp2_with fail
  go_ret
  exact⟨dM HV.out.symm,Below.refl _ _⟩
 ·have hp:0<s.size:=by omega
  obtain ⟨r,hr⟩:=p9 s hp
  have hp':(0:Int)<(s.size:Int):=by omega
  have he:=Jp s hp
  have he':(!s.toList.isEmpty)=true:=by rw [he]; rfl
  generalize hc:s[0]'hp=c at hr
  have hv:=GU hr
  have HV:=Lib.hid hv
  clear hv hr h0
  cases hl:isLet c
  ·have HL:=Lib.hid hl; clear hl
   go_enter Tryz.func86,Tryz.ntmps86
   go_wp2_with fail
   refine (gD c _).mono ?_; rw [HL.out]; rintro e w' ⟨rfl,rfl⟩
   go_wp2_with fail
   go_ret
   exact⟨dM (by rw [HV.out,HL.out]; rfl),Below.refl _ _⟩
  ·have HL:=Lib.hid hl; clear hl
   cases hw:gZ s.data.toList
   ·have HW:=Lib.hid hw; clear hw
    obtain ⟨n,hn⟩:∃ n,n=aQ gY s.data.toList:=⟨_,rfl⟩
    have HN:=Lib.hid hn; clear hn
    by_cases hm:n=s.size
    ·subst hm
     go_enter Tryz.func86,Tryz.ntmps86
     go_wp2_with fail
     refine (gD c _).mono ?_; rw [HL.out]; rintro e w' ⟨rfl,rfl⟩
     go_wp2_with fail
     refine (lD s _).mono ?_; rw [HW.out]; rintro e w' ⟨rfl,rfl⟩
     go_wp2_with fail
     refine (wY _).mono ?_; rintro e w1 ⟨rfl,rfl⟩
     go_wp2_with fail
     refine (pU s _ _ _ hs (by simp) (by simp)).mono ?_; rw [← HN.out]; rintro e w1 ⟨rfl,rfl⟩
     go_wp2_with fail
     go_ret
     exact⟨dM (by rw [HV.out,HL.out,HW.out,← HN.out,bB]; simp),((Below.refl _ _).alloc (by simp) _).alloc (by simp) _⟩
    ·have hm1:(n == s.size)=false:=by simp [hm]
     have hm2:((n:Int) == (s.size:Int))=false:=by rw [beq_eq_false_iff_ne]; omega
     have hm3:¬ (n:Int)=(s.size:Int):=by omega
     go_enter Tryz.func86,Tryz.ntmps86
     go_wp2_with fail
     refine (gD c _).mono ?_; rw [HL.out]; rintro e w' ⟨rfl,rfl⟩
     go_wp2_with fail
     refine (lD s _).mono ?_; rw [HW.out]; rintro e w' ⟨rfl,rfl⟩
     go_wp2_with fail
     refine (wY _).mono ?_; rintro e w1 ⟨rfl,rfl⟩
     go_wp2_with fail
     refine (pU s _ _ _ hs (by simp) (by simp)).mono ?_; rw [← HN.out]; rintro e w1 ⟨rfl,rfl⟩
     go_wp2_with fail
     go_ret
     exact⟨dM (by rw [HV.out,HL.out,HW.out,← HN.out,bB,hm1]; rfl),((Below.refl _ _).alloc (by simp) _).alloc (by simp) _⟩
   ·have HW:=Lib.hid hw; clear hw
    go_enter Tryz.func86,Tryz.ntmps86
    go_wp2_with fail
    refine (gD c _).mono ?_; rw [HL.out]; rintro e w' ⟨rfl,rfl⟩
    go_wp2_with fail
    refine (lD s _).mono ?_; rw [HW.out]; rintro e w' ⟨rfl,rfl⟩
    go_wp2_with fail
    go_ret
    exact⟨dM (by rw [HV.out,HL.out,HW.out]; rfl),Below.refl _ _⟩
end Go.Proofs.YtkkeocnnecegbaaGreatDoor
namespace Go.Proofs.YtkkeocnnecegbaaGreatDoor
open Go.RowKit
def dB (k:Nat):Nat:=if k=2∨k=3 then 100 else if k=4 then 112 else if k=5 then 98 else if 6≤k∧k≤15 then 115 else if k=16 then 99 else if 17≤k∧k≤21 then 101 else 63
def jX (k:Nat):List UInt8:=if k=1 then [100,42] else if k=3 then [112,42,98] else if k=5 then [115,42] else if k=6∨k=7∨k=11∨k=12∨k=13∨k=19∨k=20 then [101] else if k=8∨k=21 then [101,101] else if k=9 then [101,98,98] else if k=10 then [101,98] else if k=15 then [99,101,42] else []
theorem gL (k:Nat):k=0∨k=1∨k=2∨k=3∨k=4∨k=5∨k=6∨k=7∨k=8∨k=9∨k=10∨k=11∨k=12∨k=13∨k=14∨k=15∨k=16∨k=17∨k=18∨k=19∨k=20∨k=21∨22≤k:=by omega
theorem zK (k:Nat) (w:World):Calls Tryz.prog 85 #[.int .u8 k] w fun e w'=>e=.returned (.int .u8 (dB k))∧w=w':=by
 rcases gL k with h | h | h | h | h | h | h | h | h | h | h | h | h | h | h | h | h | h | h | h | h | h | h
 all_goals try subst h
 case inr.inr.inr.inr.inr.inr.inr.inr.inr.inr.inr.inr.inr.inr.inr.inr.inr.inr.inr.inr.inr.inr =>
  have b2:((k:Int) == 2)=false:=by simp; omega
  have b3:((k:Int) == 3)=false:=by simp; omega
  have b4:((k:Int) == 4)=false:=by simp; omega
  have b5:((k:Int) == 5)=false:=by simp; omega
  have b6:decide ((6:Int)≤(k:Int))=true:=by simp; omega
  have b15:decide ((k:Int)≤15)=false:=by simp; omega
  have b16:((k:Int) == 16)=false:=by simp; omega
  have b17:decide ((17:Int)≤(k:Int))=true:=by simp; omega
  have b21:decide ((k:Int)≤21)=false:=by simp; omega
  have hk:dB k=63:=by unfold dB; rw [if_neg (by omega),if_neg (by omega),if_neg (by omega),if_neg (by omega),if_neg (by omega),if_neg (by omega)]
  rw [hk]
  clear hk h
  go_enter Tryz.func85,Tryz.ntmps85
  go_wp2_with fail
  go_ret
  exact⟨rfl,rfl⟩
 all_goals
  go_enter Tryz.func85,Tryz.ntmps85
  go_wp2_with fail
  go_ret
  exact⟨rfl,rfl⟩
theorem qI (k:Nat) (w:World):Calls Tryz.prog 139 #[.int .u8 k] w fun e w'=>e=.returned (.string ⟨(jX k).toArray⟩)∧w=w':=by
 rcases gL k with h | h | h | h | h | h | h | h | h | h | h | h | h | h | h | h | h | h | h | h | h | h | h
 all_goals try subst h
 case inr.inr.inr.inr.inr.inr.inr.inr.inr.inr.inr.inr.inr.inr.inr.inr.inr.inr.inr.inr.inr.inr =>
  have b1:((k:Int) == 1)=false:=by simp; omega
  have b3:((k:Int) == 3)=false:=by simp; omega
  have b5:((k:Int) == 5)=false:=by simp; omega
  have b6:((k:Int) == 6)=false:=by simp; omega
  have b7:((k:Int) == 7)=false:=by simp; omega
  have b8:((k:Int) == 8)=false:=by simp; omega
  have b9:((k:Int) == 9)=false:=by simp; omega
  have b10:((k:Int) == 10)=false:=by simp; omega
  have b11:((k:Int) == 11)=false:=by simp; omega
  have b12:((k:Int) == 12)=false:=by simp; omega
  have b13:((k:Int) == 13)=false:=by simp; omega
  have b15:((k:Int) == 15)=false:=by simp; omega
  have b19:((k:Int) == 19)=false:=by simp; omega
  have b20:((k:Int) == 20)=false:=by simp; omega
  have b21:((k:Int) == 21)=false:=by simp; omega
  have hk:jX k=[]:=by unfold jX; rw [if_neg (by omega),if_neg (by omega),if_neg (by omega),if_neg (by omega),if_neg (by omega),if_neg (by omega),if_neg (by omega),if_neg (by omega)]
  rw [hk]
  clear hk h
  go_enter Tryz.func139,Tryz.ntmps139
  go_wp2_with fail
  go_ret
  exact⟨rfl,rfl⟩
 all_goals
  go_enter Tryz.func139,Tryz.ntmps139
  go_wp2_with fail
  go_ret
  exact⟨rfl,rfl⟩
def matchP:List UInt8→List UInt8→Bool
 | [],l=>l.isEmpty
 | c :: 42 :: r,l=>matchP r (l.dropWhile (· == c))
 | c :: r,l=>match l with
  | []=>false
  | d :: l'=>(d == c) && matchP r l'
def lg (k n:Nat):List UInt8:=if k=9∧n=2 then [101,98] else jX k
def eu (k:Nat):UInt8:=UInt8.ofNat (dB k)
theorem GY (k:Nat):(eu k).toNat=dB k:=by
 unfold eu dB
 rw [UInt8.toNat_ofNat']
 split <;> (try split) <;> (try split) <;> (try split) <;> (try split) <;> (try split) <;> omega
end Go.Proofs.YtkkeocnnecegbaaGreatDoor
namespace Go.Proofs.YtkkeocnnecegbaaGreatDoor
open Go.RowKit
theorem eP.tail {w:World} {b o:Nat} {d:UInt8} {L:List UInt8} (h:∀ i (h:i<(d :: L).length),w.cell? ⟨b,o+i,none⟩=some (.int .u8 (d :: L)[i].toNat)):eP w (some ⟨b,o+1,none⟩) L :=
 Or.inr ⟨b,o+1,rfl,fun i hi=>by
  have:=h (i+1) (by simp only [List.length_cons]; omega)
  rw [show o+1+i=o+(i+1) by omega,this]; rfl⟩
theorem GM (l:List UInt8):Lib.hasPrefix l [42]=(l.head? == some 42):=by
 cases l with
 | nil=>rfl
 | cons c r =>
  have h1:Lib.hasPrefix (c :: r) [42]=((42 == c) && true):=rfl
  rw [h1,Bool.and_true,List.head?_cons,Option.some_beq_some]
  exact BEq.comm
def nN (c:UInt8) (r:List UInt8):List UInt8→Bool
 | []=>false
 | d :: l'=>(d == c) && matchP r l'
theorem CP {c:UInt8} {r l:List UInt8} (h:(r.head? == some 42)=false):matchP (c :: r) l=nN c r l:=by
 rw [matchP.eq_def]
 split
 ·rename_i h2; cases h2
 ·rename_i h2; injection h2 with h2 h3; subst h3; simp at h
 ·rename_i h2 h3; injection h3 with h3 h4; subst h3 h4; unfold nN; rfl
theorem yw (k:Nat) (L:List UInt8) (A:Option Addr) (c:Nat) (w:World) (hL:eP w A L) (hc:L.length≤c) (hn:L.length≤1000000) :
  Calls Tryz.prog 87 #[.int .u8 k,.slice A L.length c] w fun e w'=>e=.returned (.bool (matchP (lg k L.length) L))∧Below w.heap.size w w':=by
 obtain ⟨s0,hs0⟩:∃ s:ByteArray,s=⟨(lg k L.length).toArray⟩:=⟨_,rfl⟩
 have HS0:Hid (s0.data.toList=lg k L.length):=Lib.hid (by rw [hs0])
 have HM:Hid (matchP s0.data.toList L=matchP (lg k L.length) L):=Lib.hid (by rw [HS0.out])
 have hsz0:s0.size≤3:=by
  rw [← bB,HS0.out]
  unfold lg jX
  repeat' split
  all_goals decide
 generalize hM:matchP (lg k L.length) L=M at HM ⊢
 have HL:=Lib.hid hL
 clear hL hM
 rcases (show (¬ k=9)∨(k=9∧¬ L.length=2)∨(k=9∧L.length=2) by omega) with h9 | ⟨h9,h2⟩ | ⟨h9,h2⟩
 have hpk:jX k=lg k L.length:=by unfold lg; rw [if_neg (fun h=>h9 h.1)]
 have hb9:((k:Int) == 9)=false:=by simp; omega
 go_enter Tryz.func87,Tryz.ntmps87
 go_wp2_with fail
 refine (qI k w).mono ?_; rw [hpk,← hs0]; rintro e w' ⟨rfl,rfl⟩
 clear hpk hs0
 go_wp2_with fail
 rotate_left
 subst h9
 have hpk:jX 9=lg 9 L.length:=by unfold lg; rw [if_neg (fun h=>h2 h.2)]
 have hb2:((L.length:Int) == 2)=false:=by simp; omega
 go_enter Tryz.func87,Tryz.ntmps87
 go_wp2_with fail
 refine (qI 9 w).mono ?_; rw [hpk,← hs0]; rintro e w' ⟨rfl,rfl⟩
 clear hpk hs0
 go_wp2_with fail
 rotate_left
 subst h9
 have hpk:(⟨#[101,98]⟩:ByteArray)=s0:=by rw [hs0,h2]; rfl
 have hb2:((L.length:Int) == 2)=true:=by simp [h2]
 clear h2
 go_enter Tryz.func87,Tryz.ntmps87
 go_wp2_with fail
 refine (qI 9 w).mono ?_; rintro e w' ⟨rfl,rfl⟩
 clear hs0
 go_wp2_with fail
 rw [hpk]
 clear hpk
 rotate_left
 all_goals
  go_loopg [1,5] 3 (fun gk v1 v5 wr=>∃ (s:ByteArray) (L':List UInt8) (A':Option Addr) (c' q:Nat),s.size≤gk∧v5=.string s∧v1=.slice A' L'.length c'∧L'.length≤c'∧L'.length≤1000000∧wr=w.drewN q∧Hid (eP w A' L')∧Hid (matchP s.data.toList L'=M))
  case atStart=>exact⟨s0,L,A,c,0,hsz0,rfl,rfl,hc,hn,rfl,HL,HM⟩
  case round =>
   obtain ⟨s,L',A',c',q,hsz,rfl,rfl,hc',hn',rfl,HL',HM'⟩:=hrel
   by_cases hz:s.size=0
   case pos =>
    have hsl:s.data.toList=[]:=List.eq_nil_of_length_eq_zero ((bB s).trans hz)
    have HR:Hid (((L'.length:Int) == 0)=M):=Lib.hid (by rw [← HM'.out,hsl]; cases L' <;> simp [matchP]; omega)
    clear hsl
    go_wp2_with fail
    go_ret
    exact⟨ed HR.out,⟨rfl,rfl,rfl,Nat.le_refl _,fun _ _=>rfl⟩⟩
   case neg =>
    obtain ⟨ko,rfl⟩:∃ ko,gk=ko+1:=⟨gk - 1,by omega⟩
    have hp:0<s.size:=by omega
    obtain ⟨r,hr⟩:=p9 s hp
    have hp':(0:Int)<(s.size:Int):=by omega
    generalize hch:s[0]'hp=ch at hr
    have HSL:=Lib.hid hr
    have hrl:r.length+1=s.size:=by rw [← bB,hr]; rfl
    have HE1:Hid ((s.extract 1 s.size).data.toList=r):=Lib.hid (by rw [lV s 1 s.size rfl,hr]; rfl)
    have hone:(1:Int)≤(s.size:Int):=by omega
    clear hr hz
    go_wp2_with fail
    refine (Tryz.strings_HasPrefix (s.extract 1 s.size) ⟨#[42]⟩ _).mono ?_
    rintro e w1 ⟨rfl,rfl⟩
    rw [HE1.out,show (⟨#[42]⟩:ByteArray).data.toList=[42] from rfl,GM]
    cases hst:(r.head? == some 42)
    case true =>
     have hr2:∃ r2,r=42 :: r2:=by
      cases r with
      | nil=>simp at hst
      | cons x r2=>simp at hst; exact⟨r2,by rw [hst]⟩
     obtain ⟨r2,rfl⟩:=hr2
     clear hst
     have htwo:(2:Int)≤(s.size:Int):=by simp at hrl; omega
     have HE2:Hid ((s.extract 2 s.size).data.toList=r2):=Lib.hid (by rw [lV s 2 s.size rfl,HSL.out]; rfl)
     have HM2:Hid (matchP r2 (L'.dropWhile (· == ch))=M):=Lib.hid (by rw [← HM'.out,HSL.out]; rfl)
     have hsz2:(s.extract 2 s.size).size≤ko:=by rw [← bB,HE2.out]; simp at hrl; omega
     go_wp2_with fail
     go_loopg [1] L'.length (fun gk v1 wr=>∃ (L2:List UInt8) (A2:Option Addr) (c2 q2:Nat),L2.length≤gk∧v1=.slice A2 L2.length c2∧L2.length≤c2∧L2.length≤1000000∧wr=w.drewN q2∧Hid (eP w A2 L2)∧Hid (matchP r2 (L2.dropWhile (· == ch))=M))
     case atStart=>exact⟨L',A',c',_,Nat.le_refl _,rfl,hc',hn',rfl,HL',HM2⟩
     case round =>
      obtain ⟨L2,A2,c2,q2,hl2,rfl,hc2,hn2,rfl,HL2,HM3⟩:=hrel
      cases L2 with
      | nil =>
       go_wp2_with fail
       go_quiet (fail)
       go_wp2_with fail
       go_roundg ko
       case measure=>omega
       case rel=>exact⟨_,[],A2,c2,_,hsz2,rfl,rfl,hc2,hn2,rfl,HL2,Lib.hid (by rw [HE2.out,← HM3.out]; rfl)⟩
      | cons d L3 =>
       rcases HL2.out with ⟨h0,_⟩ | ⟨b2,o2,rfl,hcell⟩
       ·cases h0
       have hd0:w.cell? ⟨b2,o2,none⟩=some (.int .u8 d.toNat):=hcell 0 (by simp)
       have HT:=Lib.hid (eP.tail hcell)
       clear hcell
       have hlen:((0:Int)<((d :: L3).length:Int)):=by simp only [List.length_cons]; omega
       have hlen1:((1:Int)≤((d :: L3).length:Int)):=by simp only [List.length_cons]; omega
       by_cases hd:d=ch
       case pos =>
        subst hd
        have hdb:((d.toNat:Int) == (d.toNat:Int))=true:=by simp
        by_cases hcap:c2=1
        case pos =>
         have hL3:L3=[]:=List.eq_nil_of_length_eq_zero (by simp at hc2; omega)
         subst hL3
         subst hcap
         go_wp2_with fail
         go_quiet (fail)
         go_wp2_with fail
         cases gk with
         | zero=>simp at hl2
         | succ gk =>
          go_roundg gk
          case measure=>omega
          case rel=>exact⟨[],some ⟨b2,o2,none⟩,0,_,by simp,by simp,by simp,by simp,rfl,Lib.hid (Or.inl ⟨rfl,trivial⟩),Lib.hid (by rw [← HM3.out,List.dropWhile_cons_of_pos (by simp)])⟩
        case neg =>
         go_wp2_with fail
         go_quiet (fail)
         go_wp2_with fail
         cases gk with
         | zero=>simp at hl2
         | succ gk =>
          go_roundg gk
          case measure=>omega
          case rel=>exact⟨L3,some ⟨b2,o2+1,none⟩,c2 - 1,_,by simpa using hl2,by simp,by simp at hc2; omega,by simp at hn2; omega,rfl,HT,Lib.hid (by rw [← HM3.out,List.dropWhile_cons_of_pos (by simp)])⟩
       case neg =>
        have hdb:((d.toNat:Int) == (ch.toNat:Int))=false:=by
         rw [beq_eq_false_iff_ne]; intro h; exact hd (UInt8.toNat.inj (by omega))
        go_wp2_with fail
        go_quiet (fail)
        go_wp2_with fail
        go_roundg ko
        case measure=>omega
        case rel=>exact⟨_,d :: L3,some ⟨b2,o2,none⟩,c2,_,hsz2,rfl,rfl,hc2,hn2,rfl,HL2,Lib.hid (by
         rw [HE2.out,← HM3.out,List.dropWhile_cons_of_neg (by simpa using hd)])⟩
    case false =>
     have HM2:Hid (nN ch r L'=M):=Lib.hid (by rw [← HM'.out,HSL.out,CP hst])
     clear hst
     have hsz1:(s.extract 1 s.size).size≤ko:=by rw [← bB,HE1.out]; omega
     cases L' with
     | nil =>
      go_wp2_with fail
      go_quiet (fail)
      go_wp2_with fail
      go_ret
      exact⟨ed HM2.out,⟨rfl,rfl,rfl,Nat.le_refl _,fun _ _=>rfl⟩⟩
     | cons d L3 =>
      rcases HL'.out with ⟨h0,_⟩ | ⟨b2,o2,rfl,hcell⟩
      ·cases h0
      have hd0:w.cell? ⟨b2,o2,none⟩=some (.int .u8 d.toNat):=hcell 0 (by simp)
      have HT:=Lib.hid (eP.tail hcell)
      clear hcell
      have hlen:((0:Int)<((d :: L3).length:Int)):=by simp only [List.length_cons]; omega
      have hlen0:(((d :: L3).length:Int) == 0)=false:=by simp only [List.length_cons]; rw [beq_eq_false_iff_ne]; omega
      have hlen1:((1:Int)≤((d :: L3).length:Int)):=by simp only [List.length_cons]; omega
      by_cases hd:d=ch
      case pos =>
       subst hd
       have hdb:((d.toNat:Int) != (d.toNat:Int))=false:=by simp
       by_cases hcap:c'=1
       case pos =>
        have hL3:L3=[]:=List.eq_nil_of_length_eq_zero (by simp at hc'; omega)
        subst hL3
        subst hcap
        go_wp2_with fail
        go_quiet (fail)
        go_wp2_with fail
        go_quiet (fail)
        go_wp2_with fail
        go_roundg ko
        case measure=>omega
        case rel=>exact⟨_,[],some ⟨b2,o2,none⟩,0,_,hsz1,rfl,by simp,by simp,by simp,(by rw [World.drewN_drewN,World.drewN_drewN]),Lib.hid (Or.inl ⟨rfl,trivial⟩),Lib.hid (by rw [HE1.out,← HM2.out]; simp [nN])⟩
       case neg =>
        go_wp2_with fail
        go_quiet (fail)
        go_wp2_with fail
        go_quiet (fail)
        go_wp2_with fail
        go_roundg ko
        case measure=>omega
        case rel=>exact⟨_,L3,some ⟨b2,o2+1,none⟩,c' - 1,_,hsz1,rfl,by simp,by simp at hc'; omega,by simp at hn'; omega,(by rw [World.drewN_drewN,World.drewN_drewN]),HT,Lib.hid (by rw [HE1.out,← HM2.out]; simp [nN])⟩
      case neg =>
       have hdb:((d.toNat:Int) != (ch.toNat:Int))=true:=by
        simp only [bne_iff_ne,ne_eq]; intro h; exact hd (UInt8.toNat.inj (by omega))
       go_wp2_with fail
       go_quiet (fail)
       go_wp2_with fail
       go_ret
       exact⟨ed (by rw [← HM2.out]; simp [hd,nN]),⟨rfl,rfl,rfl,Nat.le_refl _,fun _ _=>rfl⟩⟩
end Go.Proofs.YtkkeocnnecegbaaGreatDoor
namespace Go.Proofs.YtkkeocnnecegbaaGreatDoor
open Go.RowKit
theorem KH (k:Nat):(eu k == 100)=ng k:=by
 rcases gL k with h | h | h | h | h | h | h | h | h | h | h | h | h | h | h | h | h | h | h | h | h | h | h
 all_goals try (subst h; decide)
 have h1:dB k=63:=by unfold dB; rw [if_neg (by omega),if_neg (by omega),if_neg (by omega),if_neg (by omega),if_neg (by omega),if_neg (by omega)]
 have h2:ng k=false:=by unfold ng; simp; omega
 rw [h2]; unfold eu; rw [h1]; rfl
theorem Ig (k:Nat):(eu k == 112)=(k == 4):=by
 rcases gL k with h | h | h | h | h | h | h | h | h | h | h | h | h | h | h | h | h | h | h | h | h | h | h
 all_goals try (subst h; decide)
 have h1:dB k=63:=by unfold dB; rw [if_neg (by omega),if_neg (by omega),if_neg (by omega),if_neg (by omega),if_neg (by omega),if_neg (by omega)]
 have h2:(k == 4)=false:=by simp; omega
 rw [h2]; unfold eu; rw [h1]; rfl
theorem wu (k:Nat):(eu k == 98)=(k == 5):=by
 rcases gL k with h | h | h | h | h | h | h | h | h | h | h | h | h | h | h | h | h | h | h | h | h | h | h
 all_goals try (subst h; decide)
 have h1:dB k=63:=by unfold dB; rw [if_neg (by omega),if_neg (by omega),if_neg (by omega),if_neg (by omega),if_neg (by omega),if_neg (by omega)]
 have h2:(k == 5)=false:=by simp; omega
 rw [h2]; unfold eu; rw [h1]; rfl
theorem Kz (k:Nat):(eu k == 115)=nz k:=by
 rcases gL k with h | h | h | h | h | h | h | h | h | h | h | h | h | h | h | h | h | h | h | h | h | h | h
 all_goals try (subst h; decide)
 have h1:dB k=63:=by unfold dB; rw [if_neg (by omega),if_neg (by omega),if_neg (by omega),if_neg (by omega),if_neg (by omega),if_neg (by omega)]
 have h2:nz k=false:=by unfold nz; simp; omega
 rw [h2]; unfold eu; rw [h1]; rfl
theorem Ki (k:Nat):(eu k == 99)=(k == 16):=by
 rcases gL k with h | h | h | h | h | h | h | h | h | h | h | h | h | h | h | h | h | h | h | h | h | h | h
 all_goals try (subst h; decide)
 have h1:dB k=63:=by unfold dB; rw [if_neg (by omega),if_neg (by omega),if_neg (by omega),if_neg (by omega),if_neg (by omega),if_neg (by omega)]
 have h2:(k == 16)=false:=by simp; omega
 rw [h2]; unfold eu; rw [h1]; rfl
theorem qc (k:Nat):(eu k == 101)=bG k:=by
 rcases gL k with h | h | h | h | h | h | h | h | h | h | h | h | h | h | h | h | h | h | h | h | h | h | h
 all_goals try (subst h; decide)
 have h1:dB k=63:=by unfold dB; rw [if_neg (by omega),if_neg (by omega),if_neg (by omega),if_neg (by omega),if_neg (by omega),if_neg (by omega)]
 have h2:bG k=false:=by unfold bG; simp; omega
 rw [h2]; unfold eu; rw [h1]; rfl
theorem qL {c:UInt8} {f:Nat→Bool} (hf:∀ k,(eu k == c)=f k) (l:List Nat):((l.map eu).dropWhile (· == c)).isEmpty=l.all f:=by
 induction l with
 | nil=>rfl
 | cons a r ih =>
  rw [List.map_cons,List.all_cons]
  cases h:f a with
  | true=>rw [List.dropWhile_cons_of_pos (by rw [hf]; exact h),Bool.true_and]; exact ih
  | false=>rw [List.dropWhile_cons_of_neg (by rw [hf,h]; simp)]; rfl
theorem DV (l:List Nat):matchP [98] ((l.map eu).dropWhile (· == 112))=((l.getLast? == some 5) && l.dropLast.all (· == 4)):=by
 induction l with
 | nil=>rfl
 | cons a r ih =>
  rw [List.map_cons]
  cases h:(a == 4) with
  | true =>
   rw [List.dropWhile_cons_of_pos (by rw [Ig]; exact h),ih]
   cases r with
   | nil =>
    have:a=4:=by simpa using h
    subst this; rfl
   | cons b r'=>simp only [List.getLast?_cons_cons,List.dropLast_cons_cons,List.all_cons,h,Bool.true_and]
  | false =>
   rw [List.dropWhile_cons_of_neg (by rw [Ig,h]; simp)]
   have e:matchP [98] (eu a :: r.map eu)=((eu a == 98) && (r.map eu).isEmpty):=by
    simp [matchP]
   rw [e,wu]
   cases r with
   | nil=>simp
   | cons b r'=>simp only [List.map_cons,List.isEmpty_cons,Bool.and_false,List.dropLast_cons_cons,List.all_cons,h,Bool.false_and]
theorem KE (l:List Nat):matchP [101] (l.map eu)=(match l with | [a]=>bG a | _=>false):=by
 match l with
 | []=>simp [matchP]
 | [a]=>simp [matchP,qc]
 | a :: b :: r=>simp [matchP]
theorem J2 (l:List Nat):matchP [101,101] (l.map eu)=(match l with | [a,b]=>bG a && bG b | _=>false):=by
 match l with
 | []=>simp [matchP]
 | [a]=>simp [matchP]
 | [a,b]=>simp [matchP,qc]
 | a :: b :: c :: r=>simp [matchP]
theorem Ka (l:List Nat):matchP [101,98] (l.map eu)=(match l with | [a,b]=>bG a && b == 5 | _=>false):=by
 match l with
 | []=>simp [matchP]
 | [a]=>simp [matchP]
 | [a,b]=>simp [matchP,qc,wu]
 | a :: b :: c :: r=>simp [matchP]
theorem rD (k:Nat) (l:List Nat):matchP (lg k l.length) (l.map eu)=fitsK k l:=by
 have e1:∀ (c:UInt8) (x:List UInt8),matchP [c,42] x=(x.dropWhile (· == c)).isEmpty:=fun c x=>by simp [matchP]
 unfold fitsK lg
 by_cases h9:k=9
 ·subst h9
  match l with
  | []=>rfl
  | [a]=>simp [matchP,jX]
  | [a,b]=>simp [matchP,qc,wu]
  | [a,b,c]=>simp [matchP,jX,qc,wu,Bool.and_assoc]
  | a :: b :: c :: d :: r=>simp [matchP,jX]
 ·rw [if_neg (fun h=>h9 h.1)]
  unfold jX
  by_cases h1:k=1
  ·rw [if_pos h1,if_pos h1,e1]; exact qL KH l
  ·rw [if_neg h1,if_neg h1]
   by_cases h3:k=3
   ·rw [if_pos h3,if_pos h3]
    show matchP [98] _=_
    exact DV l
   ·rw [if_neg h3,if_neg h3]
    by_cases h5:k=5
    ·rw [if_pos h5,if_pos h5,e1]; exact qL Kz l
    ·rw [if_neg h5,if_neg h5]
     by_cases h6:k=6∨k=7∨k=11∨k=12∨k=13∨k=19∨k=20
     ·rw [if_pos h6,if_pos h6]; exact KE l
     ·rw [if_neg h6,if_neg h6]
      by_cases h8:k=8∨k=21
      ·rw [if_pos h8,if_pos h8]; exact J2 l
      ·rw [if_neg h8,if_neg h8,if_neg h9,if_neg h9]
       by_cases h10:k=10
       ·rw [if_pos h10,if_pos h10]; exact Ka l
       ·rw [if_neg h10,if_neg h10]
        by_cases h15:k=15
        ·rw [if_pos h15,if_pos h15]
         cases l with
         | nil=>simp [matchP]
         | cons a r =>
          have:matchP [99,101,42] (eu a :: r.map eu)=((eu a == 99) && matchP [101,42] (r.map eu)):=by simp [matchP]
          rw [List.map_cons,this,Ki,e1,qL qc]
        ·rw [if_neg h15,if_neg h15]
         cases l <;> simp [matchP]
end Go.Proofs.YtkkeocnnecegbaaGreatDoor
namespace Go.Proofs.YtkkeocnnecegbaaGreatDoor
open Go.RowKit
def entU:Nat→List (Nat×Int)→List MapEntry
 | _,[]=>[]
 | i,(k,v) :: r=>{ key:=.int .u8 (k:Nat),val:=.int .i64 v,born:=i } :: entU (i+1) r
theorem uK (k:Nat) (v:Int):∀ (L:List (Nat×Int)) (i:Nat),entU i (L ++ [(k,v)])=entU i L ++ [{ key:=.int .u8 (k:Nat),val:=.int .i64 v,born:=i+L.length }]
 | [],i=>by simp [entU]
 | (a,b) :: r,i=>by
  show _ :: entU (i+1) (r ++ [(k,v)])=_
  rw [uK k v r (i+1)]
  simp only [entU,List.length_cons,List.cons_append]
  rw [show i+1+r.length=i+(r.length+1) by omega]
theorem pQ (k:Nat):∀ (L:List (Nat×Int)) (i j:Nat),∃ a,Instr.findNow (.int .u8) (.int .u8 (k:Nat)) (entU i L) j=some a∧a.map (·.2)=(L.lookup k).map (fun v=>Value.int .i64 v)
 | [],i,j=>⟨none,rfl,rfl⟩
 | (a,b) :: r,i,j=>by
  simp only [entU,Instr.findNow,Instr.sameNow]
  by_cases h:k=a
  ·subst h
   exact⟨some (j,.int .i64 b),by simp,by simp [List.lookup]⟩
  ·have h':(k == a)=false:=by simpa using h
   have h'':((k:Int) == (a:Int))=false:=by simp; omega
   obtain ⟨x,h1,h2⟩:=pQ k r (i+1) (j+1)
   simp only [if_true,h'']
   exact⟨x,h1,by simp only [List.lookup,h']; exact h2⟩
theorem Ct (w:World) (L:List (Nat×Int)) (k:Nat) (v:Int) (n:Nat) (hn:L.length=n) (hk:L.lookup k=none) :
  (Instr.mapUpdate 153 (.map (some w.heap.size)) (.int .u8 (k:Nat)) (.int .i64 v)).run Tryz.prog (w.alloc (.map (entU 0 L).toArray n))=.ok () (w.alloc (.map (entU 0 (L ++ [(k,v)])).toArray (n+1))):=by
 have hb:(w.alloc (.map (entU 0 L).toArray n)).heap[w.heap.size]? = some (.map (entU 0 L).toArray n):=heap_alloc_new w _
 obtain ⟨a,h1,h2⟩:=pQ k L 0 0
 rw [hk] at h2
 have ha:a=none:=by cases a <;> simp_all
 subst ha
 have hc:(Instr.checkKey false 10000 5 (.int .u8 (k:Nat))).run Tryz.prog (w.alloc (.map (entU 0 L).toArray n))=.ok () _:=MapKept.run_checkKey (k:=.int .u8 (k:Nat)) Tryz.underlying5 (by simp [MapKept.IsKey]) false 9999
 simp [Instr.mapUpdate,run_underlying Tryz.underlying153,MapKept.run_getObj_map hb,hc,MapKept.run_findKey Tryz.underlying5 h1,MapKept.run_setObj_map _ hb,Result.andThen]
 rw [show entU 0 L ++ [{ key:=.int .u8 (k:Nat),val:=.int .i64 v,born:=n }]=entU 0 (L ++ [(k,v)]) by rw [uK,Nat.zero_add,hn]]
 exact pK w _ _
theorem Kn (W:World) (b:Nat) (L:List (Nat×Int)) (k:Nat) (n:Nat) (hb:W.heap[b]? = some (.map (entU 0 L).toArray n)) (_hL:L≠[]) :
  (Instr.lookup 153 (.map (some b)) (.int .u8 (k:Nat)) false).run Tryz.prog W=.ok (.int .i64 ((L.lookup k).getD 0)) W:=by
 obtain ⟨a,h1,h2⟩:=pQ k L 0 0
 have hc:∀ em,(Instr.checkKey em 10000 5 (.int .u8 (k:Nat))).run Tryz.prog W=.ok () W:=fun em=>MapKept.run_checkKey (k:=.int .u8 (k:Nat)) Tryz.underlying5 (by simp [MapKept.IsKey]) em 9999
 cases a with
 | none =>
  have hn:L.lookup k=none:=by cases h:L.lookup k <;> simp_all
  rw [hn]
  simp [Instr.lookup,run_underlying Tryz.underlying153,MapKept.run_getObj_map hb,hc,MapKept.run_findKey Tryz.underlying5 h1,Result.andThen]
 | some q =>
  obtain ⟨i,v⟩:=q
  have hs:∃ u,L.lookup k=some u∧v=.int .i64 u:=by
   cases h:L.lookup k with
   | none=>rw [h] at h2; simp at h2
   | some u=>rw [h] at h2; simp at h2; exact⟨u,rfl,h2⟩
  obtain ⟨u,hu,rfl⟩:=hs
  rw [hu]
  simp [Instr.lookup,run_underlying Tryz.underlying153,MapKept.run_getObj_map hb,hc,MapKept.run_findKey Tryz.underlying5 h1,Result.andThen]
def dK:List (Nat×Int):=[(2,2147483647),(17,2147483647),(20,2),(21,14)]
theorem Ga (k:Nat):(dK.lookup k).getD 0=bq k:=by
 rcases gL k with h | h | h | h | h | h | h | h | h | h | h | h | h | h | h | h | h | h | h | h | h | h | h
 all_goals try (subst h; decide)
 have e:∀ j,j<22→(k == j)=false:=fun j hj=>by simp; omega
 unfold dK bq
 simp only [List.lookup,e 2 (by omega),e 17 (by omega),e 20 (by omega),e 21 (by omega)]
 rw [if_neg (by omega),if_neg (by omega),if_neg (by omega)]; rfl
theorem Ku (w:World):(Instr.mapUpdate 153 (.map (some w.heap.size)) (.int .u8 2) (.int .i64 2147483647)).run Tryz.prog (w.alloc (.map #[] 0))=.ok () (w.alloc (.map (entU 0 (dK.take 1)).toArray 1)):=Ct w [] 2 2147483647 0 rfl rfl
theorem Kh (w:World):(Instr.mapUpdate 153 (.map (some w.heap.size)) (.int .u8 17) (.int .i64 2147483647)).run Tryz.prog (w.alloc (.map (entU 0 (dK.take 1)).toArray 1))=.ok () (w.alloc (.map (entU 0 (dK.take 2)).toArray 2)):=Ct w (dK.take 1) 17 2147483647 1 rfl rfl
theorem Ky (w:World):(Instr.mapUpdate 153 (.map (some w.heap.size)) (.int .u8 20) (.int .i64 2)).run Tryz.prog (w.alloc (.map (entU 0 (dK.take 2)).toArray 2))=.ok () (w.alloc (.map (entU 0 (dK.take 3)).toArray 3)):=Ct w (dK.take 2) 20 2 2 rfl rfl
theorem Kk (w:World):(Instr.mapUpdate 153 (.map (some w.heap.size)) (.int .u8 21) (.int .i64 14)).run Tryz.prog (w.alloc (.map (entU 0 (dK.take 3)).toArray 3))=.ok () (w.alloc (.map (entU 0 dK).toArray 4)):=Ct w (dK.take 3) 21 14 3 rfl rfl
def yu:Nat→Int:=fun i=>(([2,3,4,6,7,8,14,15,16,18,19]:List Int).getD i 0)
theorem Dt (k:Nat):has 11 yu k=named k:=by
 rcases gL k with h | h | h | h | h | h | h | h | h | h | h | h | h | h | h | h | h | h | h | h | h | h | h
 all_goals try (subst h; decide)
 have h2:named k=false:=by unfold named; simp; omega
 rw [h2]
 unfold has
 rw [decide_eq_false]
 rintro ⟨i,hi,hh⟩
 have:∀ i,i<11→yu i≤19:=by decide
 have:=this i hi
 omega
theorem info5:(Tryz.prog.info? 5).map (fun i=>(i.zero,i.size,i.bytes))=some (some (.int .u8 0),1,1):=by kernel_rfl
def tL (l:List Nat):List Value:=l.map (fun k=>Value.int .u8 (dB k))
theorem EN (l:List Nat) (k:Nat):tL (l ++ [k])=tL l ++ [.int .u8 (dB k)]:=by simp [tL]
theorem Ea {w:World} {base cap:Nat} {A:Option Addr} {ks:List Nat} (h:w.ownsRow base 5 1 (.slice A ks.length cap) ks.length (tL ks)):eP w A (ks.map eu)∧ks.length≤cap:=by
 by_cases h0:ks=[]
 ·subst h0; exact⟨Or.inl ⟨rfl,trivial⟩,Nat.zero_le _⟩
 ·have hpos:0<ks.length:=List.length_pos_iff.2 h0
  obtain ⟨g,cap',hv,_,hlt⟩:=h.form hpos
  injection hv with hA hn hc
  subst hA hc
  refine⟨Or.inr ⟨g,0,rfl,fun j hj=>?_⟩,qb h⟩
  have hj':j<ks.length:=by simpa using hj
  have:=h.cellAt j (by omega)
  rw [Nat.zero_add,this,tL,List.getElem?_map,List.getElem?_eq_getElem hj',List.getElem_map,GY]; rfl
theorem DL (l:List UInt8):isNameS l=gX l:=by cases l <;> rfl
end Go.Proofs.YtkkeocnnecegbaaGreatDoor
