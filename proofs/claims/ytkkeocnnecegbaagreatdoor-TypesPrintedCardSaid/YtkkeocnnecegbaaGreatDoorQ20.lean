/- Joint text: TA, TB. By an AI agent. -/
import Derived.Test.YtkkeocnnecegbaaGreatDoorQ02
import Derived.Test.YtkkeocnnecegbaaGreatDoorQ19
import Derived.Deep.RegionHeld3
set_option linter.all false
set_option maxRecDepth 100000
set_option maxHeartbeats 64000000
namespace Go.Proofs.YtkkeocnnecegbaaGreatDoor
open Go.RowKit
def iD (w:World) (A:Option Addr) (sz:Nat) (l:List (List UInt8×List Value)):Prop:=l=[]∨∃ b o,A=some ⟨b,o,none⟩∧∀ i a,l[i]? = some a→w.cell? ⟨b,o+i*sz,none⟩=some (.string ⟨a.1.toArray⟩)∧∀ k v,a.2[k]? = some v→w.cell? ⟨b,o+i*sz+(k+1),none⟩=some v
theorem iD.below {w w':World} {A:Option Addr} {sz:Nat} {l:List (List UInt8×List Value)} (h:iD w A sz l) (hb:Below w.heap.size w w'):iD w' A sz l:=by
 rcases h with h | ⟨b,o,e,h⟩
 ·exact Or.inl h
 ·exact Or.inr ⟨b,o,e,fun i a hi=>⟨(hb.cell (p:=⟨b,_,none⟩) (aa (h i a hi).1)).trans (h i a hi).1,fun k v hk=>(hb.cell (p:=⟨b,_,none⟩) (aa ((h i a hi).2 k v hk))).trans ((h i a hi).2 k v hk)⟩⟩
theorem iD.at {w:World} {A:Option Addr} {sz i:Nat} {l:List (List UInt8×List Value)} {a:List UInt8×List Value} (h:iD w A sz l) (hi:l[i]? = some a):∃ b o,A=some ⟨b,o,none⟩∧w.cell? ⟨b,o+i*sz,none⟩=some (.string ⟨a.1.toArray⟩)∧∀ k v,a.2[k]? = some v→w.cell? ⟨b,o+i*sz+(k+1),none⟩=some v:=by
 rcases h with rfl | ⟨b,o,e,h⟩
 ·simp at hi
 ·exact⟨b,o,e,h i a hi⟩
def iC (a:List UInt8×Int):List UInt8×List Value:=(a.1,[.int .i64 a.2])
def fnV (f:FnS):List UInt8×List Value:=(f.name,[.int .i64 f.params,.int .i64 f.vars,.int .i64 f.root])
def fe (a:List UInt8×Nat):List UInt8×List Value:=(a.1,[.int .i64 a.2])
theorem tF {α:Type} {nm:α→List UInt8} {x:List UInt8} {l:List α} {i:Nat} {a:α} (h:l[i]? = some a) (hx:nm a=x) (hn:∀ j,j<i→∀ b,l[j]? = some b→nm b≠x):dm nm x l=i:=by
 have:l.findIdx? (fun a=>nm a == x)=some i:=by
  rw [List.findIdx?_eq_some_iff_getElem]
  obtain ⟨hi,e⟩:=List.getElem?_eq_some_iff.1 h
  refine⟨hi,by rw [e,hx]; exact beq_self_eq_true x,fun j hj=>?_⟩
  have:=hn j hj _ (List.getElem?_eq_getElem (by omega))
  simpa using this
 unfold dm; rw [this]
theorem qN {α:Type} {nm:α→List UInt8} {x:List UInt8} {l:List α} (hn:∀ (j:Nat) (b:α),l[j]? = some b→nm b≠x):dm nm x l = -1:=by
 have:l.findIdx? (fun a=>nm a == x)=none:=by
  rw [List.findIdx?_eq_none_iff]
  intro b hb
  obtain ⟨j,hj⟩:=List.mem_iff_getElem?.1 hb
  have:=hn j b hj
  simpa using this
 unfold dm; rw [this]
theorem Co (s x:ByteArray):(s.toList == x.toList)=decide (s.data.toList=x.data.toList):=by rw [ByteArray.toList_eq,ByteArray.toList_eq,Bool.eq_iff_iff]; simp
theorem nM {α:Type} {f:α→List UInt8×List Value} {l:List α} {i:Nat} {a:α} (h:l[i]? = some a):(l.map f)[i]? = some (f a):=by rw [List.getElem?_map,h]; rfl
theorem AU (a:Value) (W:World):(callFunc 194 #[a]).run Tryz.prog W=.ok (.enter 194 #[a]) W:=by kernel_rfl
theorem BB (a p q:Value) (W:World):(callFunc 216 #[a,p,q]).run Tryz.prog W=.ok (.enter 216 #[a,p,q]) W:=by kernel_rfl
theorem IP (s:ByteArray) (v1:Value) (w:World) :
  Calls Tryz.prog 194 #[.agg #[.string s,v1]] w fun e w'=>e=.returned (.string s)∧w'=w.alloc (.cells #[.string s,v1] 113):=by
 go_enter Tryz.func194,Tryz.ntmps194
 go_wp2_with fail
 go_ret
 exact⟨rfl,rfl⟩
theorem Ja (s x:ByteArray) (v1:Value) (P Q:Nat) (w:World) (hP:w.cell? ⟨P,0,none⟩=some (.func (.func 194) #[] #[])) (hQ:w.cell? ⟨Q,0,none⟩=some (.string x)) :
  Calls Tryz.prog 216 #[.agg #[.string s,v1],.pointer (some ⟨P,0,none⟩),.pointer (some ⟨Q,0,none⟩)] w fun e w'=>e=.returned (.bool (decide (s.data.toList=x.data.toList)))∧Below w.heap.size w w':=by
 have eG:=fun a W=>AU a W
 have hb0:Below w.heap.size w (w.alloc (.cells #[.string s,v1] 113)):=(Below.refl _ _).alloc (Nat.le_refl _) _
 have HX:Hid (Blk (w.alloc (.cells #[.string s,v1] 113)) w.heap.size 113 #[.string s,v1]):=Lib.hid (Blk.new w 113 _)
 have HS:Hid (∀ W,Below (w.alloc (.cells #[.string s,v1] 113)).heap.size (w.alloc (.cells #[.string s,v1] 113)) W→W.cell? ⟨P,0,none⟩=some (.func (.func 194) #[] #[])∧W.cell? ⟨Q,0,none⟩=some (.string x)∧W.cell? ⟨w.heap.size,0,none⟩=some (.string s)∧W.cell? ⟨w.heap.size,1,none⟩=some v1):=Lib.hid (fun W hb=>⟨(hb.cell (p:=⟨P,0,none⟩) (Nat.lt_trans (aa hP) (by simp))).trans ((hb0.cell (p:=⟨P,0,none⟩) (aa hP)).trans hP),(hb.cell (p:=⟨Q,0,none⟩) (Nat.lt_trans (aa hQ) (by simp))).trans ((hb0.cell (p:=⟨Q,0,none⟩) (aa hQ)).trans hQ),(HX.out.below hb).cell 0,(HX.out.below hb).cell 1⟩)
 have HB0:=Lib.hid hb0
 clear hb0 HX hP hQ
 go_enter Tryz.func216,Tryz.ntmps216
 go_upto_region 1 with fail
 have hdr:Below (w.alloc (.cells #[.string s,v1] 113)).heap.size (w.alloc (.cells #[.string s,v1] 113)) (w.alloc (.cells #[.string s,v1] 113)).drew:=⟨rfl,rfl,rfl,Nat.le_refl _,fun _ _=>rfl⟩
 refine wp_region_held_drew (S:=fun W=>W.cell? ⟨P,0,none⟩=some (.func (.func 194) #[] #[])∧W.cell? ⟨Q,0,none⟩=some (.string x)∧W.cell? ⟨w.heap.size,0,none⟩=some (.string s)∧W.cell? ⟨w.heap.size,1,none⟩=some v1) (by kernel_rfl) (HS.out _ hdr) (fun hS=>?_)
 refine wpAnyH_take (i:=0) (v:=.func (.func 194) #[] #[]) rfl (by kernel_rfl) (by kernel_rfl) (by kernel_rfl) (fun _ _ _ h=>h) (Or.inl ⟨by rfl,?_⟩) hS ?_
 ·rintro W ⟨hW0,hW1,hW2,hW3⟩
  go_simp
 simp only [Act.put,List.setIfInBounds_toArray]
 refine wpAnyH_take (i:=1) (v:=.agg #[.string s,v1]) rfl (by kernel_rfl) (by kernel_rfl) (by kernel_rfl) (fun _ _ _ h=>h) (Or.inl ⟨by rfl,?_⟩) hS ?_
 ·rintro W ⟨hW0,hW1,hW2,hW3⟩
  go_simp
 simp only [Act.put]
 refine wpAnyH_take (i:=3) (v:=.string x) rfl (by kernel_rfl) (by kernel_rfl) (by kernel_rfl) (fun _ _ _ h=>h) (Or.inl ⟨by rfl,?_⟩) hS ?_
 ·rintro W ⟨hW0,hW1,hW2,hW3⟩
  go_simp
 simp only [Act.put]
 refine wpAnyH_ready (rs:=[2]) (by kernel_rfl) (by simp) ?_
 refine AllReadyH.cons rfl (fun K hK=>?_) .nil
 go_simp
 refine (IP s v1 _).mono ?_
 rintro e w5 ⟨rfl,rfl⟩
 have hb5:=hdr.alloc (Nat.le_refl _) (.cells #[.string s,v1] 113)
 have hS5:=HS.out _ hb5
 refine hK.out _ _ hS5 (fun _=>?_)
 clear hK hS
 refine wpAnyH_ready (rs:=[4]) (by kernel_rfl) (by simp) ?_
 refine AllReadyH.cons rfl (fun K hK=>?_) .nil
 go_simp
 refine hK.out _ _ hS5 (fun _=>?_)
 clear hK
 refine wpAnyH_ready (rs:=[5]) (by kernel_rfl) (by simp) ?_
 refine AllReadyH.cons rfl (fun K hK=>?_) .nil
 go_simp
 refine hK.out _ _ hS5 (fun _=>?_)
 clear hK
 refine wpAnyH_done (by kernel_rfl) ?_ _
 go_wp2_with fail
 go_ret
 exact⟨ed (Co s x),ag HB0.out hb5⟩
theorem yc:(Tryz.prog.info? 113).map (fun i=>(i.zero,i.size,i.bytes))=some (some (.agg #[.string ⟨#[]⟩,.int .i64 0]),2,24):=by kernel_rfl
theorem Df (P Q:Nat) (A:Option Addr) (c:Nat) (l:List (List UInt8×Int)) (x:ByteArray) (w:World) (h:iD w A 2 (l.map iC)) (hP:w.cell? ⟨P,0,none⟩=some (.func (.func 194) #[] #[])) (hQ:w.cell? ⟨Q,0,none⟩=some (.string x)) (hl:l.length≤1000000) :
  Calls Tryz.prog 215 #[.slice A l.length c,.func (.func 216) #[] #[.pointer (some ⟨P,0,none⟩),.pointer (some ⟨Q,0,none⟩)]] w fun e w'=>e=.returned (.int .i64 (dm (·.1) x.data.toList l))∧Below w.heap.size w w':=by
 have H:=Lib.hid h; have HP:=Lib.hid hP; have HQ:=Lib.hid hQ
 clear h hP hQ
 have eC:=fun a W=>BB a (.pointer (some ⟨P,0,none⟩)) (.pointer (some ⟨Q,0,none⟩)) W
 obtain ⟨n,hn⟩:∃ n,n=l.length:=⟨_,rfl⟩
 have HN:=Lib.hid hn
 rw [← hn] at hl ⊢
 clear hn
 go_enter Tryz.func215,Tryz.ntmps215
 go_wp2_with fail
 have e5:=yc
 go_loopg [8] n (fun gk v wr=>∃ i:Nat,i≤n∧n - i≤gk∧v=.int .i64 i∧Hid (Below w.heap.size w wr)∧Hid (∀ j,j<i→∀ b,l[j]? = some b→b.1≠x.data.toList))
 case atStart=>exact⟨0,Nat.zero_le _,Nat.le_refl _,rfl,Lib.hid (Below.refl _ _),Lib.hid (fun j hj=>by omega)⟩
 case round =>
  obtain ⟨i,hi,hgk,rfl,HB,HS⟩:=hrel
  by_cases hlt:i<n
  case neg =>
   have HI:Hid (dm (·.1) x.data.toList l = -1):=Lib.hid (qN (fun j b hb=>HS.out j (by have:=(List.getElem?_eq_some_iff.1 hb).1; have:=HN.out; omega) b hb))
   go_wp2_with fail
   go_ret
   exact⟨by rw [HI.out]; rfl,HB.out⟩
  case pos =>
   have hil:i<l.length:=by rw [← HN.out]; exact hlt
   obtain ⟨y,hy⟩:∃ y,l[i]? = some y:=⟨_,List.getElem?_eq_getElem hil⟩
   obtain ⟨b,o,rfl,x0,xk⟩:=(H.out.below HB.out).at (nM (f:=iC) hy)
   have x1:=xk 0 _ rfl
   simp only [iC] at x0 x1
   have lb:=aa x0
   have hii:(i:Int)<(n:Int):=by omega
   have HY:=Lib.hid hy
   have HC:=Lib.hid (Ja ⟨y.1.toArray⟩ x (.int .i64 y.2) P Q wr ((HB.out.cell (p:=⟨P,0,none⟩) (aa HP.out)).trans HP.out) ((HB.out.cell (p:=⟨Q,0,none⟩) (aa HQ.out)).trans HQ.out))
   clear xk hy hil
   go_wp2_with fail
   refine HC.out.mono ?_
   rintro e w1 ⟨rfl,hb1⟩
   have HB1:=Lib.hid (ag HB.out hb1)
   clear hb1
   cases hok:decide ((⟨y.1.toArray⟩:ByteArray).data.toList=x.data.toList)
   case true =>
    have HI:Hid (dm (·.1) x.data.toList l=i):=Lib.hid (tF HY.out (of_decide_eq_true hok) HS.out)
    clear hok
    go_wp2_with fail
    go_ret
    exact⟨by rw [HI.out]; rfl,HB1.out⟩
   case false =>
    have HS2:Hid (∀ j,j<i+1→∀ b,l[j]? = some b→b.1≠x.data.toList):=Lib.hid (fun j hj b hb=>by
     by_cases hji:j<i
     ·exact HS.out j hji b hb
     ·have:j=i:=by omega
      subst this
      rw [HY.out] at hb
      injection hb with hb
      subst hb
      exact of_decide_eq_false hok)
    clear hok
    go_wp2_with fail
    cases gk with
    | zero=>omega
    | succ gk =>
     go_roundg gk
     case measure=>omega
     case rel=>exact⟨i+1,by omega,by omega,by simp,HB1,HS2⟩
theorem Ee (A:Option Addr) (c:Nat) (l:List (List UInt8×Int)) (x:ByteArray) (w:World) (h:iD w A 2 (l.map iC)) (hl:l.length≤1000000) :
  Calls Tryz.prog 193 #[.slice A l.length c,.string x,.func (.func 194) #[] #[]] w fun e w'=>e=.returned (.int .i64 (dm (·.1) x.data.toList l))∧Below w.heap.size w w':=by
 have hb0:Below w.heap.size w ((w.alloc (.cells #[.string x] 9)).alloc (.cells #[.func (.func 194) #[] #[]] 257)):=((Below.refl _ _).alloc (Nat.le_refl _) _).alloc (by simp) _
 have HC:=Lib.hid (Df (w.heap.size+1) w.heap.size A c l x _ (h.below hb0) ((dF _ _ _ _ (by simp):Blk ((w.alloc (.cells #[.string x] 9)).alloc (.cells #[.func (.func 194) #[] #[]] 257)) (w.heap.size+1) 257 #[.func (.func 194) #[] #[]]).cell 0) (((Blk.new w 9 #[.string x]).alloc (.cells #[.func (.func 194) #[] #[]] 257)).cell 0) hl)
 have HB0:=Lib.hid hb0
 clear hb0 h
 generalize dm (·.1) x.data.toList l=r at *
 go_enter Tryz.func193,Tryz.ntmps193
 go_wp2_with fail
 refine HC.out.mono ?_
 rintro e w1 ⟨rfl,hb1⟩
 have HB1:=Lib.hid (ag HB0.out hb1)
 clear hb1
 go_wp2_with fail
 go_ret
 exact⟨rfl,HB1.out⟩
theorem EI (a:Value) (W:World):(callFunc 163 #[a]).run Tryz.prog W=.ok (.enter 163 #[a]) W:=by kernel_rfl
theorem EG (a p q:Value) (W:World):(callFunc 196 #[a,p,q]).run Tryz.prog W=.ok (.enter 196 #[a,p,q]) W:=by kernel_rfl
theorem JP (s:ByteArray) (v1 v2 v3:Value) (w:World) :
  Calls Tryz.prog 163 #[.agg #[.string s,v1,v2,v3]] w fun e w'=>e=.returned (.string s)∧w'=w.alloc (.cells #[.string s,v1,v2,v3] 72):=by
 go_enter Tryz.func163,Tryz.ntmps163
 go_wp2_with fail
 go_ret
 exact⟨rfl,rfl⟩
theorem Jv (s x:ByteArray) (v1 v2 v3:Value) (P Q:Nat) (w:World) (hP:w.cell? ⟨P,0,none⟩=some (.func (.func 163) #[] #[])) (hQ:w.cell? ⟨Q,0,none⟩=some (.string x)) :
  Calls Tryz.prog 196 #[.agg #[.string s,v1,v2,v3],.pointer (some ⟨P,0,none⟩),.pointer (some ⟨Q,0,none⟩)] w fun e w'=>e=.returned (.bool (decide (s.data.toList=x.data.toList)))∧Below w.heap.size w w':=by
 have eG:=fun a W=>EI a W
 have hb0:Below w.heap.size w (w.alloc (.cells #[.string s,v1,v2,v3] 72)):=(Below.refl _ _).alloc (Nat.le_refl _) _
 have HX:Hid (Blk (w.alloc (.cells #[.string s,v1,v2,v3] 72)) w.heap.size 72 #[.string s,v1,v2,v3]):=Lib.hid (Blk.new w 72 _)
 have HS:Hid (∀ W,Below (w.alloc (.cells #[.string s,v1,v2,v3] 72)).heap.size (w.alloc (.cells #[.string s,v1,v2,v3] 72)) W→W.cell? ⟨P,0,none⟩=some (.func (.func 163) #[] #[])∧W.cell? ⟨Q,0,none⟩=some (.string x)∧W.cell? ⟨w.heap.size,0,none⟩=some (.string s)∧W.cell? ⟨w.heap.size,1,none⟩=some v1∧W.cell? ⟨w.heap.size,2,none⟩=some v2∧W.cell? ⟨w.heap.size,3,none⟩=some v3):=Lib.hid (fun W hb=>⟨(hb.cell (p:=⟨P,0,none⟩) (Nat.lt_trans (aa hP) (by simp))).trans ((hb0.cell (p:=⟨P,0,none⟩) (aa hP)).trans hP),(hb.cell (p:=⟨Q,0,none⟩) (Nat.lt_trans (aa hQ) (by simp))).trans ((hb0.cell (p:=⟨Q,0,none⟩) (aa hQ)).trans hQ),(HX.out.below hb).cell 0,(HX.out.below hb).cell 1,(HX.out.below hb).cell 2,(HX.out.below hb).cell 3⟩)
 have HB0:=Lib.hid hb0
 clear hb0 HX hP hQ
 go_enter Tryz.func196,Tryz.ntmps196
 go_upto_region 1 with fail
 have hdr:Below (w.alloc (.cells #[.string s,v1,v2,v3] 72)).heap.size (w.alloc (.cells #[.string s,v1,v2,v3] 72)) (w.alloc (.cells #[.string s,v1,v2,v3] 72)).drew:=⟨rfl,rfl,rfl,Nat.le_refl _,fun _ _=>rfl⟩
 refine wp_region_held_drew (S:=fun W=>W.cell? ⟨P,0,none⟩=some (.func (.func 163) #[] #[])∧W.cell? ⟨Q,0,none⟩=some (.string x)∧W.cell? ⟨w.heap.size,0,none⟩=some (.string s)∧W.cell? ⟨w.heap.size,1,none⟩=some v1∧W.cell? ⟨w.heap.size,2,none⟩=some v2∧W.cell? ⟨w.heap.size,3,none⟩=some v3) (by kernel_rfl) (HS.out _ hdr) (fun hS=>?_)
 refine wpAnyH_take (i:=0) (v:=.func (.func 163) #[] #[]) rfl (by kernel_rfl) (by kernel_rfl) (by kernel_rfl) (fun _ _ _ h=>h) (Or.inl ⟨by rfl,?_⟩) hS ?_
 ·rintro W ⟨hW0,hW1,hW2,hW3,hW4,hW5⟩
  go_simp
 simp only [Act.put,List.setIfInBounds_toArray]
 refine wpAnyH_take (i:=1) (v:=.agg #[.string s,v1,v2,v3]) rfl (by kernel_rfl) (by kernel_rfl) (by kernel_rfl) (fun _ _ _ h=>h) (Or.inl ⟨by rfl,?_⟩) hS ?_
 ·rintro W ⟨hW0,hW1,hW2,hW3,hW4,hW5⟩
  go_simp
 simp only [Act.put]
 refine wpAnyH_take (i:=3) (v:=.string x) rfl (by kernel_rfl) (by kernel_rfl) (by kernel_rfl) (fun _ _ _ h=>h) (Or.inl ⟨by rfl,?_⟩) hS ?_
 ·rintro W ⟨hW0,hW1,hW2,hW3,hW4,hW5⟩
  go_simp
 simp only [Act.put]
 refine wpAnyH_ready (rs:=[2]) (by kernel_rfl) (by simp) ?_
 refine AllReadyH.cons rfl (fun K hK=>?_) .nil
 go_simp
 refine (JP s v1 v2 v3 _).mono ?_
 rintro e w5 ⟨rfl,rfl⟩
 have hb5:=hdr.alloc (Nat.le_refl _) (.cells #[.string s,v1,v2,v3] 72)
 have hS5:=HS.out _ hb5
 refine hK.out _ _ hS5 (fun _=>?_)
 clear hK hS
 refine wpAnyH_ready (rs:=[4]) (by kernel_rfl) (by simp) ?_
 refine AllReadyH.cons rfl (fun K hK=>?_) .nil
 go_simp
 refine hK.out _ _ hS5 (fun _=>?_)
 clear hK
 refine wpAnyH_ready (rs:=[5]) (by kernel_rfl) (by simp) ?_
 refine AllReadyH.cons rfl (fun K hK=>?_) .nil
 go_simp
 refine hK.out _ _ hS5 (fun _=>?_)
 clear hK
 refine wpAnyH_done (by kernel_rfl) ?_ _
 go_wp2_with fail
 go_ret
 exact⟨ed (Co s x),ag HB0.out hb5⟩
theorem zO:(Tryz.prog.info? 72).map (fun i=>(i.zero,i.size,i.bytes))=some (some (.agg #[.string ⟨#[]⟩,.int .i64 0,.int .i64 0,.int .i64 0]),4,40):=by kernel_rfl
theorem GD (P Q:Nat) (A:Option Addr) (c:Nat) (l:List FnS) (x:ByteArray) (w:World) (h:iD w A 4 (l.map fnV)) (hP:w.cell? ⟨P,0,none⟩=some (.func (.func 163) #[] #[])) (hQ:w.cell? ⟨Q,0,none⟩=some (.string x)) (hl:l.length≤1000000) :
  Calls Tryz.prog 195 #[.slice A l.length c,.func (.func 196) #[] #[.pointer (some ⟨P,0,none⟩),.pointer (some ⟨Q,0,none⟩)]] w fun e w'=>e=.returned (.int .i64 (dm (·.name) x.data.toList l))∧Below w.heap.size w w':=by
 have H:=Lib.hid h; have HP:=Lib.hid hP; have HQ:=Lib.hid hQ
 clear h hP hQ
 have eC:=fun a W=>EG a (.pointer (some ⟨P,0,none⟩)) (.pointer (some ⟨Q,0,none⟩)) W
 obtain ⟨n,hn⟩:∃ n,n=l.length:=⟨_,rfl⟩
 have HN:=Lib.hid hn
 rw [← hn] at hl ⊢
 clear hn
 go_enter Tryz.func195,Tryz.ntmps195
 go_wp2_with fail
 have e5:=zO
 go_loopg [8] n (fun gk v wr=>∃ i:Nat,i≤n∧n - i≤gk∧v=.int .i64 i∧Hid (Below w.heap.size w wr)∧Hid (∀ j,j<i→∀ b,l[j]? = some b→b.name≠x.data.toList))
 case atStart=>exact⟨0,Nat.zero_le _,Nat.le_refl _,rfl,Lib.hid (Below.refl _ _),Lib.hid (fun j hj=>by omega)⟩
 case round =>
  obtain ⟨i,hi,hgk,rfl,HB,HS⟩:=hrel
  by_cases hlt:i<n
  case neg =>
   have HI:Hid (dm (·.name) x.data.toList l = -1):=Lib.hid (qN (fun j b hb=>HS.out j (by have:=(List.getElem?_eq_some_iff.1 hb).1; have:=HN.out; omega) b hb))
   go_wp2_with fail
   go_ret
   exact⟨by rw [HI.out]; rfl,HB.out⟩
  case pos =>
   have hil:i<l.length:=by rw [← HN.out]; exact hlt
   obtain ⟨y,hy⟩:∃ y,l[i]? = some y:=⟨_,List.getElem?_eq_getElem hil⟩
   obtain ⟨b,o,rfl,x0,xk⟩:=(H.out.below HB.out).at (nM (f:=fnV) hy)
   have x1:=xk 0 _ rfl
   have x2:=xk 1 _ rfl
   have x3:=xk 2 _ rfl
   simp only [fnV] at x0 x1 x2 x3
   have lb:=aa x0
   have hii:(i:Int)<(n:Int):=by omega
   have HY:=Lib.hid hy
   have HC:=Lib.hid (Jv ⟨y.name.toArray⟩ x (.int .i64 y.params) (.int .i64 y.vars) (.int .i64 y.root) P Q wr ((HB.out.cell (p:=⟨P,0,none⟩) (aa HP.out)).trans HP.out) ((HB.out.cell (p:=⟨Q,0,none⟩) (aa HQ.out)).trans HQ.out))
   clear xk hy hil
   go_wp2_with fail
   refine HC.out.mono ?_
   rintro e w1 ⟨rfl,hb1⟩
   have HB1:=Lib.hid (ag HB.out hb1)
   clear hb1
   cases hok:decide ((⟨y.name.toArray⟩:ByteArray).data.toList=x.data.toList)
   case true =>
    have HI:Hid (dm (·.name) x.data.toList l=i):=Lib.hid (tF HY.out (of_decide_eq_true hok) HS.out)
    clear hok
    go_wp2_with fail
    go_ret
    exact⟨by rw [HI.out]; rfl,HB1.out⟩
   case false =>
    have HS2:Hid (∀ j,j<i+1→∀ b,l[j]? = some b→b.name≠x.data.toList):=Lib.hid (fun j hj b hb=>by
     by_cases hji:j<i
     ·exact HS.out j hji b hb
     ·have:j=i:=by omega
      subst this
      rw [HY.out] at hb
      injection hb with hb
      subst hb
      exact of_decide_eq_false hok)
    clear hok
    go_wp2_with fail
    cases gk with
    | zero=>omega
    | succ gk =>
     go_roundg gk
     case measure=>omega
     case rel=>exact⟨i+1,by omega,by omega,by simp,HB1,HS2⟩
theorem Ht (A:Option Addr) (c:Nat) (l:List FnS) (x:ByteArray) (w:World) (h:iD w A 4 (l.map fnV)) (hl:l.length≤1000000) :
  Calls Tryz.prog 162 #[.slice A l.length c,.string x,.func (.func 163) #[] #[]] w fun e w'=>e=.returned (.int .i64 (dm (·.name) x.data.toList l))∧Below w.heap.size w w':=by
 have hb0:Below w.heap.size w ((w.alloc (.cells #[.string x] 9)).alloc (.cells #[.func (.func 163) #[] #[]] 221)):=((Below.refl _ _).alloc (Nat.le_refl _) _).alloc (by simp) _
 have HC:=Lib.hid (GD (w.heap.size+1) w.heap.size A c l x _ (h.below hb0) ((dF _ _ _ _ (by simp):Blk ((w.alloc (.cells #[.string x] 9)).alloc (.cells #[.func (.func 163) #[] #[]] 221)) (w.heap.size+1) 221 #[.func (.func 163) #[] #[]]).cell 0) (((Blk.new w 9 #[.string x]).alloc (.cells #[.func (.func 163) #[] #[]] 221)).cell 0) hl)
 have HB0:=Lib.hid hb0
 clear hb0 h
 generalize dm (·.name) x.data.toList l=r at *
 go_enter Tryz.func162,Tryz.ntmps162
 go_wp2_with fail
 refine HC.out.mono ?_
 rintro e w1 ⟨rfl,hb1⟩
 have HB1:=Lib.hid (ag HB0.out hb1)
 clear hb1
 go_wp2_with fail
 go_ret
 exact⟨rfl,HB1.out⟩
theorem yV (a:Value) (W:World):(callFunc 219 #[a]).run Tryz.prog W=.ok (.enter 219 #[a]) W:=by kernel_rfl
theorem zy (a p q:Value) (W:World):(callFunc 232 #[a,p,q]).run Tryz.prog W=.ok (.enter 232 #[a,p,q]) W:=by kernel_rfl
theorem Hr (s:ByteArray) (v1:Value) (w:World) :
  Calls Tryz.prog 219 #[.agg #[.string s,v1]] w fun e w'=>e=.returned (.string s)∧w'=w.alloc (.cells #[.string s,v1] 278):=by
 go_enter Tryz.func219,Tryz.ntmps219
 go_wp2_with fail
 go_ret
 exact⟨rfl,rfl⟩
theorem Fq (s x:ByteArray) (v1:Value) (P Q:Nat) (w:World) (hP:w.cell? ⟨P,0,none⟩=some (.func (.func 219) #[] #[])) (hQ:w.cell? ⟨Q,0,none⟩=some (.string x)) :
  Calls Tryz.prog 232 #[.agg #[.string s,v1],.pointer (some ⟨P,0,none⟩),.pointer (some ⟨Q,0,none⟩)] w fun e w'=>e=.returned (.bool (decide (s.data.toList=x.data.toList)))∧Below w.heap.size w w':=by
 have eG:=fun a W=>yV a W
 have hb0:Below w.heap.size w (w.alloc (.cells #[.string s,v1] 278)):=(Below.refl _ _).alloc (Nat.le_refl _) _
 have HX:Hid (Blk (w.alloc (.cells #[.string s,v1] 278)) w.heap.size 278 #[.string s,v1]):=Lib.hid (Blk.new w 278 _)
 have HS:Hid (∀ W,Below (w.alloc (.cells #[.string s,v1] 278)).heap.size (w.alloc (.cells #[.string s,v1] 278)) W→W.cell? ⟨P,0,none⟩=some (.func (.func 219) #[] #[])∧W.cell? ⟨Q,0,none⟩=some (.string x)∧W.cell? ⟨w.heap.size,0,none⟩=some (.string s)∧W.cell? ⟨w.heap.size,1,none⟩=some v1):=Lib.hid (fun W hb=>⟨(hb.cell (p:=⟨P,0,none⟩) (Nat.lt_trans (aa hP) (by simp))).trans ((hb0.cell (p:=⟨P,0,none⟩) (aa hP)).trans hP),(hb.cell (p:=⟨Q,0,none⟩) (Nat.lt_trans (aa hQ) (by simp))).trans ((hb0.cell (p:=⟨Q,0,none⟩) (aa hQ)).trans hQ),(HX.out.below hb).cell 0,(HX.out.below hb).cell 1⟩)
 have HB0:=Lib.hid hb0
 clear hb0 HX hP hQ
 go_enter Tryz.func232,Tryz.ntmps232
 go_upto_region 1 with fail
 have hdr:Below (w.alloc (.cells #[.string s,v1] 278)).heap.size (w.alloc (.cells #[.string s,v1] 278)) (w.alloc (.cells #[.string s,v1] 278)).drew:=⟨rfl,rfl,rfl,Nat.le_refl _,fun _ _=>rfl⟩
 refine wp_region_held_drew (S:=fun W=>W.cell? ⟨P,0,none⟩=some (.func (.func 219) #[] #[])∧W.cell? ⟨Q,0,none⟩=some (.string x)∧W.cell? ⟨w.heap.size,0,none⟩=some (.string s)∧W.cell? ⟨w.heap.size,1,none⟩=some v1) (by kernel_rfl) (HS.out _ hdr) (fun hS=>?_)
 refine wpAnyH_take (i:=0) (v:=.func (.func 219) #[] #[]) rfl (by kernel_rfl) (by kernel_rfl) (by kernel_rfl) (fun _ _ _ h=>h) (Or.inl ⟨by rfl,?_⟩) hS ?_
 ·rintro W ⟨hW0,hW1,hW2,hW3⟩
  go_simp
 simp only [Act.put,List.setIfInBounds_toArray]
 refine wpAnyH_take (i:=1) (v:=.agg #[.string s,v1]) rfl (by kernel_rfl) (by kernel_rfl) (by kernel_rfl) (fun _ _ _ h=>h) (Or.inl ⟨by rfl,?_⟩) hS ?_
 ·rintro W ⟨hW0,hW1,hW2,hW3⟩
  go_simp
 simp only [Act.put]
 refine wpAnyH_take (i:=3) (v:=.string x) rfl (by kernel_rfl) (by kernel_rfl) (by kernel_rfl) (fun _ _ _ h=>h) (Or.inl ⟨by rfl,?_⟩) hS ?_
 ·rintro W ⟨hW0,hW1,hW2,hW3⟩
  go_simp
 simp only [Act.put]
 refine wpAnyH_ready (rs:=[2]) (by kernel_rfl) (by simp) ?_
 refine AllReadyH.cons rfl (fun K hK=>?_) .nil
 go_simp
 refine (Hr s v1 _).mono ?_
 rintro e w5 ⟨rfl,rfl⟩
 have hb5:=hdr.alloc (Nat.le_refl _) (.cells #[.string s,v1] 278)
 have hS5:=HS.out _ hb5
 refine hK.out _ _ hS5 (fun _=>?_)
 clear hK hS
 refine wpAnyH_ready (rs:=[4]) (by kernel_rfl) (by simp) ?_
 refine AllReadyH.cons rfl (fun K hK=>?_) .nil
 go_simp
 refine hK.out _ _ hS5 (fun _=>?_)
 clear hK
 refine wpAnyH_ready (rs:=[5]) (by kernel_rfl) (by simp) ?_
 refine AllReadyH.cons rfl (fun K hK=>?_) .nil
 go_simp
 refine hK.out _ _ hS5 (fun _=>?_)
 clear hK
 refine wpAnyH_done (by kernel_rfl) ?_ _
 go_wp2_with fail
 go_ret
 exact⟨ed (Co s x),ag HB0.out hb5⟩
theorem uA:(Tryz.prog.info? 278).map (fun i=>(i.zero,i.size,i.bytes))=some (some (.agg #[.string ⟨#[]⟩,.int .i64 0]),2,24):=by kernel_rfl
theorem BO (P Q:Nat) (A:Option Addr) (c:Nat) (l:List (List UInt8×Nat)) (x:ByteArray) (w:World) (h:iD w A 2 (l.map fe)) (hP:w.cell? ⟨P,0,none⟩=some (.func (.func 219) #[] #[])) (hQ:w.cell? ⟨Q,0,none⟩=some (.string x)) (hl:l.length≤1000000) :
  Calls Tryz.prog 231 #[.slice A l.length c,.func (.func 232) #[] #[.pointer (some ⟨P,0,none⟩),.pointer (some ⟨Q,0,none⟩)]] w fun e w'=>e=.returned (.int .i64 (dm (·.1) x.data.toList l))∧Below w.heap.size w w':=by
 have H:=Lib.hid h; have HP:=Lib.hid hP; have HQ:=Lib.hid hQ
 clear h hP hQ
 have eC:=fun a W=>zy a (.pointer (some ⟨P,0,none⟩)) (.pointer (some ⟨Q,0,none⟩)) W
 obtain ⟨n,hn⟩:∃ n,n=l.length:=⟨_,rfl⟩
 have HN:=Lib.hid hn
 rw [← hn] at hl ⊢
 clear hn
 go_enter Tryz.func231,Tryz.ntmps231
 go_wp2_with fail
 have e5:=uA
 go_loopg [8] n (fun gk v wr=>∃ i:Nat,i≤n∧n - i≤gk∧v=.int .i64 i∧Hid (Below w.heap.size w wr)∧Hid (∀ j,j<i→∀ b,l[j]? = some b→b.1≠x.data.toList))
 case atStart=>exact⟨0,Nat.zero_le _,Nat.le_refl _,rfl,Lib.hid (Below.refl _ _),Lib.hid (fun j hj=>by omega)⟩
 case round =>
  obtain ⟨i,hi,hgk,rfl,HB,HS⟩:=hrel
  by_cases hlt:i<n
  case neg =>
   have HI:Hid (dm (·.1) x.data.toList l = -1):=Lib.hid (qN (fun j b hb=>HS.out j (by have:=(List.getElem?_eq_some_iff.1 hb).1; have:=HN.out; omega) b hb))
   go_wp2_with fail
   go_ret
   exact⟨by rw [HI.out]; rfl,HB.out⟩
  case pos =>
   have hil:i<l.length:=by rw [← HN.out]; exact hlt
   obtain ⟨y,hy⟩:∃ y,l[i]? = some y:=⟨_,List.getElem?_eq_getElem hil⟩
   obtain ⟨b,o,rfl,x0,xk⟩:=(H.out.below HB.out).at (nM (f:=fe) hy)
   have x1:=xk 0 _ rfl
   simp only [fe] at x0 x1
   have lb:=aa x0
   have hii:(i:Int)<(n:Int):=by omega
   have HY:=Lib.hid hy
   have HC:=Lib.hid (Fq ⟨y.1.toArray⟩ x (.int .i64 y.2) P Q wr ((HB.out.cell (p:=⟨P,0,none⟩) (aa HP.out)).trans HP.out) ((HB.out.cell (p:=⟨Q,0,none⟩) (aa HQ.out)).trans HQ.out))
   clear xk hy hil
   go_wp2_with fail
   refine HC.out.mono ?_
   rintro e w1 ⟨rfl,hb1⟩
   have HB1:=Lib.hid (ag HB.out hb1)
   clear hb1
   cases hok:decide ((⟨y.1.toArray⟩:ByteArray).data.toList=x.data.toList)
   case true =>
    have HI:Hid (dm (·.1) x.data.toList l=i):=Lib.hid (tF HY.out (of_decide_eq_true hok) HS.out)
    clear hok
    go_wp2_with fail
    go_ret
    exact⟨by rw [HI.out]; rfl,HB1.out⟩
   case false =>
    have HS2:Hid (∀ j,j<i+1→∀ b,l[j]? = some b→b.1≠x.data.toList):=Lib.hid (fun j hj b hb=>by
     by_cases hji:j<i
     ·exact HS.out j hji b hb
     ·have:j=i:=by omega
      subst this
      rw [HY.out] at hb
      injection hb with hb
      subst hb
      exact of_decide_eq_false hok)
    clear hok
    go_wp2_with fail
    cases gk with
    | zero=>omega
    | succ gk =>
     go_roundg gk
     case measure=>omega
     case rel=>exact⟨i+1,by omega,by omega,by simp,HB1,HS2⟩
theorem BQ (A:Option Addr) (c:Nat) (l:List (List UInt8×Nat)) (x:ByteArray) (w:World) (h:iD w A 2 (l.map fe)) (hl:l.length≤1000000) :
  Calls Tryz.prog 218 #[.slice A l.length c,.string x,.func (.func 219) #[] #[]] w fun e w'=>e=.returned (.int .i64 (dm (·.1) x.data.toList l))∧Below w.heap.size w w':=by
 have hb0:Below w.heap.size w ((w.alloc (.cells #[.string x] 9)).alloc (.cells #[.func (.func 219) #[] #[]] 280)):=((Below.refl _ _).alloc (Nat.le_refl _) _).alloc (by simp) _
 have HC:=Lib.hid (BO (w.heap.size+1) w.heap.size A c l x _ (h.below hb0) ((dF _ _ _ _ (by simp):Blk ((w.alloc (.cells #[.string x] 9)).alloc (.cells #[.func (.func 219) #[] #[]] 280)) (w.heap.size+1) 280 #[.func (.func 219) #[] #[]]).cell 0) (((Blk.new w 9 #[.string x]).alloc (.cells #[.func (.func 219) #[] #[]] 280)).cell 0) hl)
 have HB0:=Lib.hid hb0
 clear hb0 h
 generalize dm (·.1) x.data.toList l=r at *
 go_enter Tryz.func218,Tryz.ntmps218
 go_wp2_with fail
 refine HC.out.mono ?_
 rintro e w1 ⟨rfl,hb1⟩
 have HB1:=Lib.hid (ag HB0.out hb1)
 clear hb1
 go_wp2_with fail
 go_ret
 exact⟨rfl,HB1.out⟩
end Go.Proofs.YtkkeocnnecegbaaGreatDoor
namespace Go.Proofs.YtkkeocnnecegbaaGreatDoor
open Go.RowKit
def bV (l:List (List UInt8×List Value)):List Value:=l.flatMap fun a=>.string ⟨a.1.toArray⟩ :: a.2
theorem pJ (l:List (List UInt8×List Value)) (a:List UInt8×List Value):bV (l ++ [a])=bV l ++ (.string ⟨a.1.toArray⟩ :: a.2):=by simp [bV]
theorem uu {sz:Nat}:∀ (l:List (List UInt8×List Value)) (_:∀ a∈l,a.2.length+1=sz) (i:Nat) (a:List UInt8×List Value),l[i]? = some a→∀ k,k<sz→(bV l)[i*sz+k]? = (Value.string ⟨a.1.toArray⟩ :: a.2)[k]?
 | [],_,i,a,h,k,hk=>by simp at h
 | b :: r,hs,0,a,h,k,hk=>by
  simp only [List.getElem?_cons_zero,Option.some.injEq] at h
  subst h
  have:=hs b (by simp)
  show ((Value.string ⟨b.1.toArray⟩ :: b.2) ++ bV r)[0*sz+k]? = _
  rw [Nat.zero_mul,Nat.zero_add,List.getElem?_append_left (by rw [List.length_cons]; omega)]
 | b :: r,hs,i+1,a,h,k,hk=>by
  have hb:=hs b (by simp)
  rw [List.getElem?_cons_succ] at h
  have:=uu r (fun a ha=>hs a (List.mem_cons_of_mem _ ha)) i a h k hk
  rw [← this]
  show ((Value.string ⟨b.1.toArray⟩ :: b.2) ++ bV r)[(i+1)*sz+k]? = _
  rw [List.getElem?_append_right (by rw [List.length_cons,hb,Nat.succ_mul]; omega)]
  congr 1
  rw [List.length_cons,hb,Nat.succ_mul]; omega
theorem uD {sz:Nat}:∀ (l:List (List UInt8×List Value)) (_:∀ a∈l,a.2.length+1=sz) (m:Nat),bV (l.take m)=(bV l).take (m*sz)
 | [],_,m=>by simp [bV]
 | b :: r,_,0=>by simp [bV]
 | b :: r,hs,m+1=>by
  have hb:=hs b (by simp)
  have:=uD r (fun a ha=>hs a (List.mem_cons_of_mem _ ha)) m
  show (Value.string ⟨b.1.toArray⟩ :: b.2) ++ bV (r.take m)=((Value.string ⟨b.1.toArray⟩ :: b.2) ++ bV r).take ((m+1)*sz)
  have e1:(Value.string ⟨b.1.toArray⟩ :: b.2).length=sz:=by rw [List.length_cons,hb]
  rw [this,List.take_append,e1,List.take_of_length_le (l:=Value.string ⟨b.1.toArray⟩ :: b.2) (by rw [e1,Nat.succ_mul]; omega),show (m+1)*sz - sz=m*sz by rw [Nat.succ_mul]; omega]
theorem iD.l6 {w:World} {base e sz c:Nat} {A:Option Addr} {l:List (List UInt8×List Value)} (hs:∀ a∈l,a.2.length+1=sz) (h:w.ownsRow base e sz (.slice A l.length c) l.length (bV l)):iD w A sz l:=by
 by_cases h0:l=[]
 ·exact Or.inl h0
 ·have hpos:0<l.length:=List.length_pos_iff.2 h0
  obtain ⟨g,cap,hv,_,_⟩:=h.form hpos
  injection hv with hA hn hc
  subst hA
  refine Or.inr ⟨g,0,rfl,fun i a hi=>?_⟩
  subst hc
  have ha:=hs a (List.mem_of_getElem? hi)
  have hx:∀ k,k<sz→w.cell? ⟨g,0+i*sz+k,none⟩=(Value.string ⟨a.1.toArray⟩ :: a.2)[k]?:=fun k hk=>by
   rw [← uu l hs i a hi k hk,Nat.zero_add]
   refine h.cellAt (i*sz+k) ?_
   have hil:=(List.getElem?_eq_some_iff.1 hi).1
   have:(i+1)*sz≤l.length*sz:=Nat.mul_le_mul_right _ hil
   rw [Nat.succ_mul] at this
   omega
  refine⟨?_,fun k v hk=>?_⟩
  ·have:=hx 0 (by omega)
   rw [Nat.add_zero] at this
   exact this
  ·have hkl:=(List.getElem?_eq_some_iff.1 hk).1
   rw [hx (k+1) (by omega),List.getElem?_cons_succ,hk]
theorem Hd {w:World} {base e sz n m c:Nat} {A:Option Addr} {xs:List Value} (h:w.ownsRow base e sz (.slice A n c) n xs) (hm:m≤n):w.ownsRow base e sz (.slice A m c) m (xs.take (m*sz)):=by
 obtain ⟨h1,h2⟩:=h
 have hms:m*sz≤n*sz:=Nat.mul_le_mul_right _ hm
 refine⟨by rw [List.length_take,h1]; omega,?_⟩
 rcases h2 with ⟨hv,rfl⟩ | ⟨g,cap,cur,hv,hb,hc,hn,hx,hs,ht⟩
 ·obtain rfl:m=0:=by omega
  exact Or.inl ⟨hv,rfl⟩
 ·injection hv with e1 e2 e3
  subst e1 e3
  exact Or.inr ⟨g,c,cur,rfl,hb,hc,by omega,hx,hs,by rw [← ht,List.take_take,Nat.min_eq_left hms]⟩
theorem own_ne {w:World} {b1 b2 e1 e2 s1 s2 n1 n2:Nat} {v1 v2:Value} {x1 x2:List Value} (h1:w.ownsRow b1 e1 s1 v1 n1 x1) (h2:w.ownsRow b2 e2 s2 v2 n2 x2) (hne:e1≠e2):v1.ownBlock=none∨v1.ownBlock≠v2.ownBlock:=by
 rcases h1.2 with ⟨rfl,_⟩ | ⟨g,cap,cur,rfl,_,hc,_⟩
 ·exact Or.inl rfl
 ·refine Or.inr ?_
  rcases h2.2 with ⟨rfl,_⟩ | ⟨g2,cap2,cur2,rfl,_,hc2,_⟩
  ·intro h; cases h
  ·intro h
   have:g=g2:=by simpa [Value.ownBlock] using h
   subst this
   rw [hc] at hc2
   injection hc2 with hc2
   injection hc2 with _ hc2
   exact hne hc2
structure StT (w:World) (R OB B n c:Nat) (A:Option Addr) (mn:Int) (s:TS) (va vf vs:Value):Prop where
 rd:Blk w R 119 #[.slice A n c,va,vf,.int .i64 mn,.slice (some ⟨OB,0,none⟩) n n,vs,.int .i64 s.vars]
 obl:Blk w OB 3 (s.of.map (Value.int .i64)).toArray
 ofn:s.of.length=n
 ak:w.ownsRow B 113 2 va s.ak.length (bV (s.ak.map iC))
 fns:w.ownsRow B 72 4 vf s.fns.length (bV (s.fns.map fnV))
 seen:w.ownsRow B 278 2 vs s.seen.length (bV (s.seen.map fe))
 lt:R<B∧OB<B∧R≠OB
 top:B≤w.heap.size
def tyT (t:Nat):Prop:=t≠113∧t≠72∧t≠278
structure FrY (R OB B:Nat) (w w':World):Prop where
 os:w'.os=w.os
 tape:w'.tape=w.tape
 output:w'.output=w.output
 size:w.heap.size≤w'.heap.size
 lo:∀ g,g<w.heap.size→g<B→g≠R→g≠OB→w'.heap[g]? = w.heap[g]?
 hi:∀ g t cs,Blk w g t cs→g≠R→g≠OB→tyT t→Blk w' g t cs
theorem FrY.refl (R OB B:Nat) (w:World):FrY R OB B w w:=⟨rfl,rfl,rfl,Nat.le_refl _,fun _ _ _ _ _=>rfl,fun _ _ _ h _ _ _=>h⟩
theorem FrY.trans {R OB B:Nat} {a b c:World} (h:FrY R OB B a b) (k:FrY R OB B b c):FrY R OB B a c :=
 ⟨k.os.trans h.os,k.tape.trans h.tape,k.output.trans h.output,Nat.le_trans h.size k.size,fun g h1 h2 h3 h4=>(k.lo g (Nat.lt_of_lt_of_le h1 h.size) h2 h3 h4).trans (h.lo g h1 h2 h3 h4),fun g t cs h1 h2 h3 h4=>k.hi g t cs (h.hi g t cs h1 h2 h3 h4) h2 h3 h4⟩
theorem FrY.of {R OB B:Nat} {a b:World} (h:Below a.heap.size a b):FrY R OB B a b:=⟨h.os,h.tape,h.output,h.size,fun g h1 _ _ _=>h.block g h1,fun _g _t _cs h1 _ _ _=>h1.below h⟩
theorem FrY.below {R OB B C:Nat} {a b:World} (h:FrY R OB B a b) (hR:C≤R) (hO:C≤OB) (hB:C≤B) (hs:C≤a.heap.size):Below C a b :=
 ⟨h.os,h.tape,h.output,h.size,fun g hg=>h.lo g (by omega) (by omega) (by omega) (by omega)⟩
theorem StT.below {w w':World} {R OB B n c:Nat} {A:Option Addr} {mn:Int} {s:TS} {va vf vs:Value} (h:StT w R OB B n c A mn s va vf vs) (hb:Below w.heap.size w w'):StT w' R OB B n c A mn s va vf vs :=
 ⟨h.rd.below hb,h.obl.below hb,h.ofn,own_below h.ak hb,own_below h.fns hb,own_below h.seen hb,h.lt,Nat.le_trans h.top hb.size⟩
end Go.Proofs.YtkkeocnnecegbaaGreatDoor
