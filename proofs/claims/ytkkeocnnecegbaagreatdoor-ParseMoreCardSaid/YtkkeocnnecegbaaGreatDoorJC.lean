/- Joint text: PwU, PwV, PwW, RefA, NamesB, PwX, PwY, PFits, PwZ. By an AI agent. -/
import Derived.Test.YtkkeocnnecegbaaGreatDoorPwT
import Derived.Test.YtkkeocnnecegbaaGreatDoorWalkB
import Derived.Test.YtkkeocnnecegbaaGreatDoorWalkG
import Derived.Test.YtkkeocnnecegbaaGreatDoorNames
/- A tree that is read; whether two are the same. By an AI agent. -/
namespace Go.Proofs.YtkkeocnnecegbaaGreatDoor
open Go.RowKit

def IntsR (w : World) (A : Option Addr) (ks : List Int) : Prop := ks = [] ∨ ∃ b o, A = some ⟨b, o, none⟩ ∧ ∀ i k, ks[i]? = some k → w.cell? ⟨b, o + i, none⟩ = some (.int .i64 k)
def IntsV (w : World) (v : Value) (ks : List Int) : Prop := ∃ A c, v = .slice A ks.length c ∧ ks.length ≤ c ∧ IntsR w A ks
/-- A node, and the value of its kids' slice. -/
abbrev PV := GN × Value
def nodeV (g : PV) : Value := .agg #[.int .u8 g.1.kind, .string ⟨g.1.text.toArray⟩, .int .i64 g.1.n, .int .i64 g.1.at', g.2]
def nodeAt (w : World) (b o : Nat) (g : PV) : Prop := w.cell? ⟨b, o, none⟩ = some (.int .u8 g.1.kind) ∧ w.cell? ⟨b, o + 1, none⟩ = some (.string ⟨g.1.text.toArray⟩) ∧ w.cell? ⟨b, o + 2, none⟩ = some (.int .i64 g.1.n) ∧ w.cell? ⟨b, o + 3, none⟩ = some (.int .i64 g.1.at') ∧ w.cell? ⟨b, o + 4, none⟩ = some g.2 ∧ IntsV w g.2 g.1.kids
/-- A tree's nodes lie at A. -/
def NodR (w : World) (A : Option Addr) (l : List PV) : Prop := l = [] ∨ ∃ b o, A = some ⟨b, o, none⟩ ∧ ∀ i g, l[i]? = some g → nodeAt w b (o + i * 5) g
def gns (l : List PV) : List GN := l.map (·.1)
theorem IntsR.below {w w' : World} {A : Option Addr} {ks : List Int} (h : IntsR w A ks) (hb : Below w.heap.size w w') : IntsR w' A ks := by
  rcases h with h | ⟨b, o, e, h⟩
  · exact Or.inl h
  · exact Or.inr ⟨b, o, e, fun i k hi => (hb.cell (p := ⟨b, _, none⟩) (cell_lt' (h i k hi))).trans (h i k hi)⟩
theorem IntsV.below {w w' : World} {v : Value} {ks : List Int} (h : IntsV w v ks) (hb : Below w.heap.size w w') : IntsV w' v ks := by
  obtain ⟨A, c, e, hc, h⟩ := h
  exact ⟨A, c, e, hc, h.below hb⟩
theorem nodeAt.below {w w' : World} {b o : Nat} {g : PV} (h : nodeAt w b o g) (hb : Below w.heap.size w w') : nodeAt w' b o g :=
  ⟨(hb.cell (p := ⟨b, _, none⟩) (cell_lt' h.1)).trans h.1, (hb.cell (p := ⟨b, _, none⟩) (cell_lt' h.2.1)).trans h.2.1, (hb.cell (p := ⟨b, _, none⟩) (cell_lt' h.2.2.1)).trans h.2.2.1, (hb.cell (p := ⟨b, _, none⟩) (cell_lt' h.2.2.2.1)).trans h.2.2.2.1, (hb.cell (p := ⟨b, _, none⟩) (cell_lt' h.2.2.2.2.1)).trans h.2.2.2.2.1, h.2.2.2.2.2.below hb⟩
theorem NodR.below {w w' : World} {A : Option Addr} {l : List PV} (h : NodR w A l) (hb : Below w.heap.size w w') : NodR w' A l := by
  rcases h with h | ⟨b, o, e, h⟩
  · exact Or.inl h
  · exact Or.inr ⟨b, o, e, fun i g hi => (h i g hi).below hb⟩
theorem NodR.at {w : World} {A : Option Addr} {l : List PV} {i : Nat} {g : PV} (h : NodR w A l) (hi : l[i]? = some g) : ∃ b o, A = some ⟨b, o, none⟩ ∧ nodeAt w b (o + i * 5) g := by
  rcases h with rfl | ⟨b, o, e, h⟩
  · simp at hi
  · exact ⟨b, o, e, h i g hi⟩

theorem take_len {α : Type} (l : List α) : l.take l.length = l := List.take_length
theorem ints_eq {w : World} {v u : Value} {ks ls : List Int} (h : IntsV w v ks) (k : IntsV w u ls) (h1 : ks.length ≤ 1000000) (h2 : ls.length ≤ 1000000) :
    Calls Tryz.prog 48 #[v, u] w fun e w' => e = .returned (.bool (decide (ks = ls))) ∧ Below w.heap.size w w' := by
  obtain ⟨A, c, rfl, _, h⟩ := h
  obtain ⟨A2, c2, rfl, _, k⟩ := k
  by_cases hn : ks.length = ls.length
  · rcases h with rfl | ⟨b, o, rfl, h⟩
    · have : ls = [] := List.length_eq_zero_iff.1 hn.symm
      subst this
      refine (Tryz.slices_Equal_int_empty A A2 c 0 c2 w (by omega)).mono ?_
      rintro e w' ⟨rfl, rfl⟩
      exact ⟨rfl, Below.refl _ _⟩
    · rcases k with rfl | ⟨b2, o2, rfl, k⟩
      · have : ks = [] := List.length_eq_zero_iff.1 hn
        subst this
        refine (Tryz.slices_Equal_int_empty (some ⟨b, o, none⟩) A2 c 0 c2 w (by omega)).mono ?_
        rintro e w' ⟨rfl, rfl⟩
        exact ⟨rfl, Below.refl _ _⟩
      · refine (Tryz.slices_Equal_int b o ks.length c b2 o2 ls.length c2 ks ls w (Nat.le_refl _) (Nat.le_refl _) (by omega) (by omega) (fun j hj => ?_) (fun j hj => ?_)).mono ?_
        · rw [h j _ (List.getElem?_eq_getElem hj), List.getD_eq_getElem?_getD, List.getElem?_eq_getElem hj]; rfl
        · rw [k j _ (List.getElem?_eq_getElem hj), List.getD_eq_getElem?_getD, List.getElem?_eq_getElem hj]; rfl
        · rintro e w' ⟨rfl, q, rfl⟩
          rw [take_len, take_len]
          exact ⟨by rw [Bool.beq_eq_decide_eq], ⟨rfl, rfl, rfl, Nat.le_refl _, fun _ _ => rfl⟩⟩
  · refine (Tryz.slices_Equal_int_lens A A2 ks.length c ls.length c2 w hn).mono ?_
    rintro e w' ⟨rfl, rfl⟩
    refine ⟨?_, Below.refl _ _⟩
    rw [decide_eq_false (fun hh => hn (by rw [hh]))]

set_option maxRecDepth 100000 in
set_option maxHeartbeats 4000000 in
theorem same_one (x y : PV) (w : World) (hx : IntsV w x.2 x.1.kids) (hy : IntsV w y.2 y.1.kids) (h1 : x.1.kids.length ≤ 1000000) (h2 : y.1.kids.length ≤ 1000000) :
    Calls Tryz.prog 47 #[nodeV x, nodeV y] w fun e w' => e = .returned (.bool (decide (sameN x.1 y.1))) ∧ Below w.heap.size w w' := by
  obtain ⟨⟨xk, xt, xn, xa, xs⟩, xv⟩ := x
  obtain ⟨⟨yk, yt, yn, ya, ys⟩, yv⟩ := y
  change IntsV w xv xs at hx
  change IntsV w yv ys at hy
  change xs.length ≤ 1000000 at h1
  change ys.length ≤ 1000000 at h2
  obtain ⟨A, c, rfl, hc, h⟩ := hx
  obtain ⟨A2, c2, rfl, hc2, k⟩ := hy
  have H := Lib.hid h; have K := Lib.hid k; have HC := Lib.hid hc; have HC2 := Lib.hid hc2
  have H1 := Lib.hid h1; have H2 := Lib.hid h2
  clear h k hc hc2 h1 h2
  unfold nodeV
  have far : Below w.heap.size w ((w.alloc (.cells #[.int .u8 xk, .string ⟨xt.toArray⟩, .int .i64 xn, .int .i64 xa, .slice A xs.length c] 43)).alloc (.cells #[.int .u8 yk, .string ⟨yt.toArray⟩, .int .i64 yn, .int .i64 ya, .slice A2 ys.length c2] 43)) := ((Below.refl _ _).alloc (Nat.le_refl _) _).alloc (by simp) _
  have FAR := Lib.hid far
  clear far
  go_enter Tryz.func47, Tryz.ntmps47
  cases hk : ((xk : Int) == (yk : Int)) with
  | false =>
    have hno : decide (sameN ⟨xk, xt, xn, xa, xs⟩ ⟨yk, yt, yn, ya, ys⟩) = false := decide_eq_false (fun hh => by have := hh.1; simp only at this; subst this; simp at hk)
    go_wp2_with fail
    go_ret
    exact ⟨ret_b hno.symm, FAR.out⟩
  | true =>
    cases ht : (xt == yt) with
    | false =>
      have hno : decide (sameN ⟨xk, xt, xn, xa, xs⟩ ⟨yk, yt, yn, ya, ys⟩) = false := decide_eq_false (fun hh => by have := hh.2.1; simp only at this; subst this; simp at ht)
      go_wp2_with fail
      go_ret
      exact ⟨ret_b hno.symm, FAR.out⟩
    | true =>
      cases hn : (xn == yn) with
      | false =>
        have hno : decide (sameN ⟨xk, xt, xn, xa, xs⟩ ⟨yk, yt, yn, ya, ys⟩) = false := decide_eq_false (fun hh => by have := hh.2.2.1; simp only at this; subst this; simp at hn)
        go_wp2_with fail
        go_ret
        exact ⟨ret_b hno.symm, FAR.out⟩
      | true =>
        have hyes : decide (sameN ⟨xk, xt, xn, xa, xs⟩ ⟨yk, yt, yn, ya, ys⟩) = decide (xs = ys) := by
          have e1 : xk = yk := by have := eq_of_beq hk; omega
          have e2 : xt = yt := by simpa using ht
          have e3 : xn = yn := by simpa using hn
          simp [sameN, e1, e2, e3]
        have HY := Lib.hid hyes
        clear hyes
        go_wp2_with fail
        refine (ints_eq (ks := xs) (ls := ys) ⟨A, c, rfl, HC.out, H.out.below FAR.out⟩ ⟨A2, c2, rfl, HC2.out, K.out.below FAR.out⟩ H1.out H2.out).mono ?_
        rintro e w1 ⟨rfl, hb⟩
        go_wp2_with fail
        go_ret
        exact ⟨ret_b HY.out.symm, FAR.out.trans (hb.mono (by simp; omega))⟩

theorem enter47 (args : Array Value) (W : World) : (callFunc 47 args).run Tryz.prog W = .ok (.enter 47 args) W := by kernel_rfl
theorem sameG_take {a b : List GN} {i : Nat} (h : sameG (a.take i) (b.take i)) {x y : GN} (hx : a[i]? = some x) (hy : b[i]? = some y) (hs : sameN x y) : sameG (a.take (i + 1)) (b.take (i + 1)) := by
  have ha := (List.getElem?_eq_some_iff.1 hx).1
  have hb := (List.getElem?_eq_some_iff.1 hy).1
  refine ⟨by simp only [List.length_take]; omega, fun j u v hu hv => ?_⟩
  by_cases hj : j < i
  · refine h.2 j u v ?_ ?_
    · rw [List.getElem?_take, if_pos hj]; rw [List.getElem?_take, if_pos (by omega)] at hu; exact hu
    · rw [List.getElem?_take, if_pos hj]; rw [List.getElem?_take, if_pos (by omega)] at hv; exact hv
  · by_cases hj2 : j = i
    · subst hj2
      rw [List.getElem?_take, if_pos (by omega), hx] at hu
      rw [List.getElem?_take, if_pos (by omega), hy] at hv
      injection hu with hu; injection hv with hv; subst hu hv; exact hs
    · rw [List.getElem?_take, if_neg (by omega)] at hu; cases hu
noncomputable instance (a b : List GN) : Decidable (sameG a b) := Classical.propDecidable _
theorem gns_at {l : List PV} {i : Nat} {g : PV} (h : l[i]? = some g) : (gns l)[i]? = some g.1 := by rw [gns, List.getElem?_map, h]; rfl
theorem gns_len (l : List PV) : (gns l).length = l.length := List.length_map ..

set_option maxRecDepth 100000 in
set_option maxHeartbeats 8000000 in
theorem eqf_any (A A2 : Option Addr) (c c2 : Nat) (l m : List PV) (w : World) (h : NodR w A l) (k : NodR w A2 m) (hl : l.length ≤ 1000000) (hm : m.length ≤ 1000000) (hkl : ∀ g ∈ l, g.1.kids.length ≤ 1000000) (hkm : ∀ g ∈ m, g.1.kids.length ≤ 1000000) :
    Calls Tryz.prog 46 #[.slice A l.length c, .slice A2 m.length c2, .func (.func 47) #[] #[]] w fun e w' => e = .returned (.bool (decide (sameG (gns l) (gns m)))) ∧ Below w.heap.size w w' := by
  have H := Lib.hid h; have K := Lib.hid k; have HKL := Lib.hid hkl; have HKM := Lib.hid hkm
  clear h k hkl hkm
  obtain ⟨n, hn⟩ : ∃ n, n = l.length := ⟨_, rfl⟩
  obtain ⟨n2, hn2⟩ : ∃ n, n = m.length := ⟨_, rfl⟩
  have HN := Lib.hid hn; have HN2 := Lib.hid hn2
  rw [← hn] at hl ⊢
  rw [← hn2] at hm ⊢
  clear hn hn2
  have e47 := fun W => enter47 #[] W
  go_enter Tryz.func46, Tryz.ntmps46
  by_cases hnn : n = n2
  case neg =>
    have HNN := Lib.hid hnn
    have hb : ((n : Int) != (n2 : Int)) = true := by simp; omega
    have hno : decide (sameG (gns l) (gns m)) = false := decide_eq_false (fun hh => hnn (by have := hh.1; rw [gns_len, gns_len, ← HN.out, ← HN2.out] at this; exact this))
    have HNO := Lib.hid hno
    clear hno hnn
    go_wp2_with fail
    go_ret
    exact ⟨ret_b HNO.out.symm, Below.refl _ _⟩
  case pos =>
    subst hnn
    have hb : ((n : Int) != (n : Int)) = false := by simp
    go_wp2_with fail
    have e5 : (Tryz.prog.info? 43).map (fun i => (i.zero, i.size, i.bytes)) = some (some (.agg #[.int .u8 0, .string ⟨#[]⟩, .int .i64 0, .int .i64 0, .slice none 0 0]), 5, 64) := info43
    go_loopg [17] n (fun gk v wr => ∃ i : Nat, i ≤ n ∧ n - i ≤ gk ∧ v = .int .i64 i ∧ Hid (Below w.heap.size w wr) ∧ Hid (sameG ((gns l).take i) ((gns m).take i)))
    case atStart => exact ⟨0, Nat.zero_le _, Nat.le_refl _, rfl, Lib.hid (Below.refl _ _), Lib.hid ⟨rfl, fun j u v hu hv => by simp at hu⟩⟩
    case round =>
      obtain ⟨i, hi, hgk, rfl, HB, HS⟩ := hrel
      by_cases hlt : i < n
      case neg =>
        have hieq : i = n := by omega
        subst hieq
        have hyes : decide (sameG (gns l) (gns m)) = true := decide_eq_true (by
          have := HS.out
          have q1 : (gns l).take i = gns l := List.take_of_length_le (by rw [gns_len]; exact Nat.le_of_eq HN.out.symm)
          have q2 : (gns m).take i = gns m := List.take_of_length_le (by rw [gns_len]; exact Nat.le_of_eq HN2.out.symm)
          rw [q1, q2] at this
          exact this)
        have HY := Lib.hid hyes
        clear hyes
        go_wp2_with fail
        go_ret
        exact ⟨ret_b HY.out.symm, HB.out⟩
      case pos =>
        have hil : i < l.length := by rw [← HN.out]; exact hlt
        have him : i < m.length := by rw [← HN2.out]; exact hlt
        obtain ⟨x, hx⟩ : ∃ x, l[i]? = some x := ⟨_, List.getElem?_eq_getElem hil⟩
        obtain ⟨y, hy⟩ : ∃ y, m[i]? = some y := ⟨_, List.getElem?_eq_getElem him⟩
        obtain ⟨b, o, rfl, x0, x1, x2, x3, x4, x5⟩ := (H.out.below HB.out).at hx
        obtain ⟨b2, o2, rfl, y0, y1, y2, y3, y4, y5⟩ := (K.out.below HB.out).at hy
        have lb := cell_lt' x0
        have lb2 := cell_lt' y0
        obtain ⟨A3, c3, hxv, hc3, hi3⟩ := x5
        obtain ⟨A4, c4, hyv, hc4, hi4⟩ := y5
        have hkx := HKL.out x (List.mem_of_getElem? hx)
        have hky := HKM.out y (List.mem_of_getElem? hy)
        rw [hxv] at x4
        rw [hyv] at y4
        have I3 := Lib.hid hi3; have I4 := Lib.hid hi4
        have C3 := Lib.hid hc3; have C4 := Lib.hid hc4
        have HX := Lib.hid hx; have HYY := Lib.hid hy
        clear hi3 hi4 hc3 hc4 hx hy hxv hyv
        go_wp2_with fail
        have far : Below wr.heap.size wr ((wr.alloc (.cells #[.int .u8 x.1.kind, .string ⟨x.1.text.toArray⟩, .int .i64 x.1.n, .int .i64 x.1.at', .slice A3 x.1.kids.length c3] 43)).alloc (.cells #[.int .u8 y.1.kind, .string ⟨y.1.text.toArray⟩, .int .i64 y.1.n, .int .i64 y.1.at', .slice A4 y.1.kids.length c4] 43)) := ((Below.refl _ _).alloc (Nat.le_refl _) _).alloc (by simp) _
        refine (same_one (x.1, .slice A3 x.1.kids.length c3) (y.1, .slice A4 y.1.kids.length c4) _ ⟨A3, c3, rfl, C3.out, I3.out.below far⟩ ⟨A4, c4, rfl, C4.out, I4.out.below far⟩ hkx hky).mono ?_
        rintro e w1 ⟨rfl, hb1⟩
        have HB1 := Lib.hid (HB.out.trans ((far.mono (by have := HB.out.size; omega)).trans (hb1.mono (by have := HB.out.size; simp; omega))))
        clear far hb1
        cases hs : decide (sameN x.1 y.1) with
        | false =>
          have hno : decide (sameG (gns l) (gns m)) = false := decide_eq_false (fun hh => (of_decide_eq_false hs) (hh.2 i _ _ (gns_at HX.out) (gns_at HYY.out)))
          have HNO := Lib.hid hno
          clear hno hs
          go_wp2_with fail
          go_ret
          exact ⟨ret_b HNO.out.symm, HB1.out⟩
        | true =>
          have HS2 := Lib.hid (sameG_take HS.out (gns_at HX.out) (gns_at HYY.out) (of_decide_eq_true hs))
          clear hs HS
          go_wp2_with fail
          cases gk with
          | zero => omega
          | succ gk =>
            go_roundg gk
            case measure => omega
            case rel => exact ⟨i + 1, by omega, by omega, by simp, HB1, HS2⟩

set_option maxHeartbeats 4000000 in
theorem same_any (A A2 : Option Addr) (c c2 : Nat) (l m : List PV) (w : World) (h : NodR w A l) (k : NodR w A2 m) (hl : l.length ≤ 1000000) (hm : m.length ≤ 1000000) (hkl : ∀ g ∈ l, g.1.kids.length ≤ 1000000) (hkm : ∀ g ∈ m, g.1.kids.length ≤ 1000000) :
    Calls Tryz.prog 22 #[.agg #[.slice A l.length c], .agg #[.slice A2 m.length c2]] w fun e w' => e = .returned (.bool (decide (sameG (gns l) (gns m)))) ∧ Below w.heap.size w w' := by
  have far : Below w.heap.size w ((w.alloc (.cells #[.slice A l.length c] 24)).alloc (.cells #[.slice A2 m.length c2] 24)) := ((Below.refl _ _).alloc (Nat.le_refl _) _).alloc (by simp) _
  have HC := Lib.hid (eqf_any A A2 c c2 l m _ (h.below far) (k.below far) hl hm hkl hkm)
  have FAR := Lib.hid far
  clear h k far hkl hkm
  go_enter Tryz.func22, Tryz.ntmps22
  go_wp2_with fail
  refine HC.out.mono ?_
  rintro e w1 ⟨rfl, hb⟩
  go_wp2_with fail
  go_ret
  exact ⟨rfl, FAR.out.trans (hb.mono (by simp; omega))⟩
end Go.Proofs.YtkkeocnnecegbaaGreatDoor

/- few; plain. By an AI agent. -/
namespace Go.Proofs.YtkkeocnnecegbaaGreatDoor
open Go.RowKit

def fewG (top : Nat) (g : GN) : Bool := decide (g.kids.length ≤ top) && decide (g.text.length ≤ 50)
def fewB (T : List GN) (top : Nat) : Bool := decide (T.length ≤ top) && T.all (fewG top)
theorem few_no {l : List PV} {top i : Nat} {g : PV} (h : l[i]? = some g) (hg : fewG top g.1 = false) : fewB (gns l) top = false := by
  unfold fewB
  have : (gns l).all (fewG top) = false := by
    rw [List.all_eq_false]
    exact ⟨g.1, List.mem_of_getElem? (gns_at h), by simp [hg]⟩
  rw [this, Bool.and_false]

set_option maxRecDepth 100000 in
set_option maxHeartbeats 8000000 in
theorem few_any (A : Option Addr) (c top : Nat) (l : List PV) (w : World) (h : NodR w A l) (ht : top ≤ 1000000) :
    Calls Tryz.prog 14 #[.agg #[.slice A l.length c], .int .i64 top] w fun e w' => e = .returned (.bool (fewB (gns l) top)) ∧ Below w.heap.size w w' := by
  have H := Lib.hid (h.below ((Below.refl _ _).alloc (Nat.le_refl _) (.cells #[.slice A l.length c] 24)))
  clear h
  obtain ⟨n, hn⟩ : ∃ n, n = l.length := ⟨_, rfl⟩
  have HN := Lib.hid hn
  rw [← hn] at H ⊢
  clear hn
  go_enter Tryz.func14, Tryz.ntmps14
  by_cases hnn : n ≤ top
  case neg =>
    have hb : decide (top < n) = true := decide_eq_true (by omega)
    have hno : fewB (gns l) top = false := by unfold fewB; rw [gns_len, ← HN.out, decide_eq_false hnn, Bool.false_and]
    have HNO := Lib.hid hno
    clear hno
    go_wp2_with fail
    go_ret
    exact ⟨ret_b HNO.out.symm, (Below.refl _ _).alloc (Nat.le_refl _) _⟩
  case pos =>
    have hb : decide (top < n) = false := decide_eq_false (by omega)
    go_wp2_with fail
    have hcell : (w.alloc (.cells #[.slice A n c] 24)).cell? ⟨w.heap.size, 0, none⟩ = some (.slice A n c) := (Blk.new w 24 #[.slice A n c]).cell 0
    go_loopg [5] n (fun gk v wr => ∃ i : Nat, i ≤ n ∧ n - i ≤ gk ∧ v = .int .i64 i ∧ wr = w.alloc (.cells #[.slice A n c] 24) ∧ Hid (∀ j, j < i → ∀ g, l[j]? = some g → fewG top g.1 = true))
    case atStart => exact ⟨0, Nat.zero_le _, Nat.le_refl _, rfl, rfl, Lib.hid (fun j hj => by omega)⟩
    case round =>
      obtain ⟨i, hi, hgk, rfl, rfl, HS⟩ := hrel
      by_cases hlt : i < n
      case neg =>
        have hyes : fewB (gns l) top = true := by
          unfold fewB
          rw [gns_len, ← HN.out, decide_eq_true hnn, Bool.true_and, List.all_eq_true]
          intro g hg
          obtain ⟨j, hj⟩ := List.mem_iff_getElem?.1 hg
          have hjl : j < l.length := by have := (List.getElem?_eq_some_iff.1 hj).1; rw [gns_len] at this; exact this
          have := HS.out j (by have := HN.out; omega) _ (List.getElem?_eq_getElem hjl)
          rw [gns_at (List.getElem?_eq_getElem hjl)] at hj
          injection hj with hj
          rw [← hj]; exact this
        have HY := Lib.hid hyes
        clear hyes
        go_wp2_with fail
        go_ret
        exact ⟨ret_b HY.out.symm, (Below.refl _ _).alloc (Nat.le_refl _) _⟩
      case pos =>
        have hil : i < l.length := by rw [← HN.out]; exact hlt
        obtain ⟨x, hx⟩ : ∃ x, l[i]? = some x := ⟨_, List.getElem?_eq_getElem hil⟩
        obtain ⟨b, o, rfl, x0, x1, x2, x3, x4, x5⟩ := H.out.at hx
        obtain ⟨A3, c3, hxv, hc3, hi3⟩ := x5
        rw [hxv] at x4
        have lb := cell_lt' x0
        have HX := Lib.hid hx
        clear hi3 hc3 hx hxv
        by_cases hk : x.1.kids.length ≤ top
        case neg =>
          have hkb : decide (top < x.1.kids.length) = true := decide_eq_true (by omega)
          have HNO := Lib.hid (few_no HX.out (show fewG top x.1 = false by unfold fewG; rw [decide_eq_false hk, Bool.false_and]))
          go_wp2_with fail
          go_ret
          exact ⟨ret_b HNO.out.symm, (Below.refl _ _).alloc (Nat.le_refl _) _⟩
        case pos =>
          have hkb : decide (top < x.1.kids.length) = false := decide_eq_false (by omega)
          by_cases ht : x.1.text.length ≤ 50
          case neg =>
            have htb : decide ((50 : Int) < (x.1.text.length : Int)) = true := decide_eq_true (by omega)
            have HNO := Lib.hid (few_no HX.out (show fewG top x.1 = false by unfold fewG; rw [decide_eq_false ht, Bool.and_false]))
            go_wp2_with fail
            go_ret
            exact ⟨ret_b HNO.out.symm, (Below.refl _ _).alloc (Nat.le_refl _) _⟩
          case pos =>
            have htb : decide ((50 : Int) < (x.1.text.length : Int)) = false := decide_eq_false (by omega)
            have HY : Hid (fewG top x.1 = true) := Lib.hid (by unfold fewG; rw [decide_eq_true hk, decide_eq_true ht]; rfl)
            go_wp2_with fail
            cases gk with
            | zero => omega
            | succ gk =>
              go_roundg gk
              case measure => omega
              case rel => exact ⟨i + 1, by omega, by omega, by simp, rfl, Lib.hid (fun j hj g hg => by
                by_cases hji : j < i
                · exact HS.out j hji g hg
                · have : j = i := by omega
                  subst this
                  rw [HX.out] at hg; injection hg with hg; subst hg; exact HY.out)⟩

def pvC (g : PV) : List Value := [.int .u8 g.1.kind, .string ⟨g.1.text.toArray⟩, .int .i64 g.1.n, .int .i64 g.1.at', g.2]
def pvsC (l : List PV) : List Value := l.flatMap pvC
theorem pvsC_len (l : List PV) : (pvsC l).length = l.length * 5 := by
  induction l with
  | nil => rfl
  | cons m r ih => simp only [pvsC, List.flatMap_cons, List.length_append, List.length_cons] at ih ⊢; rw [ih]; simp [pvC]; omega
theorem pvsC_snoc (l : List PV) (g : PV) : pvsC (l ++ [g]) = pvsC l ++ pvC g := by simp [pvsC]
theorem pvsC_at : ∀ (l : List PV) (i : Nat) (g : PV), l[i]? = some g → (pvsC l)[i * 5]? = some (.int .u8 g.1.kind) ∧ (pvsC l)[i * 5 + 1]? = some (.string ⟨g.1.text.toArray⟩) ∧ (pvsC l)[i * 5 + 2]? = some (.int .i64 g.1.n) ∧ (pvsC l)[i * 5 + 3]? = some (.int .i64 g.1.at') ∧ (pvsC l)[i * 5 + 4]? = some g.2
  | [], i, g, h => by simp at h
  | m :: r, 0, g, h => by simp at h; subst h; exact ⟨rfl, rfl, rfl, rfl, rfl⟩
  | m :: r, i + 1, g, h => by
    have ih := pvsC_at r i g (by simpa using h)
    have e : ∀ k, (pvsC (m :: r))[(i + 1) * 5 + k]? = (pvsC r)[i * 5 + k]? := fun k => by
      show (pvC m ++ pvsC r)[(i + 1) * 5 + k]? = _
      rw [List.getElem?_append_right (by simp [pvC]; omega), show (i + 1) * 5 + k - (pvC m).length = i * 5 + k by simp [pvC]; omega]
    have e0 := e 0
    simp only [Nat.add_zero] at e0
    rw [e0, e 1, e 2, e 3, e 4]
    exact ih
/-- A tree that was laid: its row is its own, its kids' slices lie where they lie. -/
theorem NodR.of_own {w : World} {base : Nat} {A : Option Addr} {c : Nat} {e : TypeId} {l : List PV} (h : w.ownsRow base e 5 (.slice A l.length c) l.length (pvsC l)) (hk : ∀ g ∈ l, IntsV w g.2 g.1.kids) : NodR w A l := by
  by_cases h0 : l = []
  · exact Or.inl h0
  · have hpos : 0 < l.length := List.length_pos_iff.2 h0
    obtain ⟨g, cap, hv, _, hlt⟩ := h.form hpos
    injection hv with hA hn hc
    subst hA
    refine Or.inr ⟨g, 0, rfl, fun i x hi => ?_⟩
    subst hc
    have hil := (List.getElem?_eq_some_iff.1 hi).1
    have e : ∀ k, k < 5 → w.cell? ⟨g, 0 + i * 5 + k, none⟩ = (pvsC l)[i * 5 + k]? := fun k hk => by
      have := h.cellAt (i * 5 + k) (by omega)
      rw [Nat.zero_add]; exact this
    obtain ⟨p0, p1, p2, p3, p4⟩ := pvsC_at l i x hi
    exact ⟨(e 0 (by omega)).trans p0, (e 1 (by omega)).trans p1, (e 2 (by omega)).trans p2, (e 3 (by omega)).trans p3, (e 4 (by omega)).trans p4, hk x (List.mem_of_getElem? hi)⟩
theorem info73 : (Tryz.prog.info? 73).map (fun i => (i.zero, i.size, i.bytes)) = some (some (.agg #[.int .u8 0, .string ⟨#[]⟩, .int .i64 0, .int .i64 0, .slice none 0 0]), 5, 64) := by kernel_rfl

set_option maxRecDepth 100000 in
set_option maxHeartbeats 8000000 in
theorem plain_any (A : Option Addr) (c : Nat) (l : List PV) (w : World) (h : NodR w A l) (hl : l.length ≤ 1000000) :
    Calls Tryz.prog 16 #[.agg #[.slice A l.length c]] w fun e w' => ∃ A' c', e = .returned (.slice A' l.length c') ∧ w'.ownsRow w.heap.size 73 5 (.slice A' l.length c') l.length (pvsC l) ∧ NodR w' A' l ∧ Below w.heap.size w w' := by
  have hb0 : Below w.heap.size w (w.alloc (.cells #[.slice A l.length c] 24)) := (Below.refl _ _).alloc (Nat.le_refl _) _
  have H := Lib.hid h
  have HB0 := Lib.hid hb0
  clear h hb0
  obtain ⟨n, hn⟩ : ∃ n, n = l.length := ⟨_, rfl⟩
  have HN := Lib.hid hn
  rw [← hn] at HB0 hl ⊢
  clear hn
  obtain ⟨i0, hi0, hz0, hz1, hz2⟩ := info_parts info73
  go_enter Tryz.func16, Tryz.ntmps16
  go_wp2_with fail
  have hcell : (w.alloc (.cells #[.slice A n c] 24)).cell? ⟨w.heap.size, 0, none⟩ = some (.slice A n c) := (Blk.new w 24 #[.slice A n c]).cell 0
  have hlt0 : w.heap.size < (w.alloc (.cells #[.slice A n c] 24)).heap.size := by simp
  obtain ⟨W0, hW0⟩ : ∃ W, W = w.alloc (.cells #[.slice A n c] 24) := ⟨_, rfl⟩
  rw [← hW0] at hcell hlt0 HB0 ⊢
  clear hW0
  go_loopg [3, 4] n (fun gk vr v wr => ∃ i : Nat, i ≤ n ∧ n - i ≤ gk ∧ v = .int .i64 i ∧ Hid (Below W0.heap.size W0 wr) ∧ Hid (wr.ownsRow W0.heap.size 73 5 vr i (pvsC (l.take i))))
  case atStart => exact ⟨0, Nat.zero_le _, Nat.le_refl _, rfl, Lib.hid (Below.refl _ _), Lib.hid (World.ownsRow_nil _ _ _ _)⟩
  case round =>
    obtain ⟨i, hi, hgk, rfl, HB, HOWN⟩ := hrel
    have tc : wr.cell? ⟨w.heap.size, 0, none⟩ = some (.slice A n c) := (HB.out.cell (p := ⟨w.heap.size, 0, none⟩) hlt0).trans hcell
    by_cases hlt : i < n
    case neg =>
      have hieq : i = n := by omega
      subst hieq
      go_wp2_with fail
      obtain ⟨A', c', rfl⟩ := own_form HOWN.out
      go_ret
      have hown := HOWN.out
      have hbb : Below w.heap.size w wr := HB0.out.trans (HB.out.mono (Nat.le_of_lt hlt0))
      rw [List.take_of_length_le (Nat.le_of_eq HN.out.symm)] at hown
      have hown2 := hown
      rw [HN.out] at hown2
      refine ⟨A', c', rfl, own_lower hown (fun q e => by have := (hown.lt q e).1; omega), NodR.of_own hown2 (fun g hg => ?_), hbb⟩
      obtain ⟨j, hj⟩ := List.mem_iff_getElem?.1 hg
      obtain ⟨b, o, _, x0, x1, x2, x3, x4, x5⟩ := (H.out.below hbb).at hj
      exact x5
    case pos =>
      have hil : i < l.length := by rw [← HN.out]; exact hlt
      obtain ⟨x, hx⟩ : ∃ x, l[i]? = some x := ⟨_, List.getElem?_eq_getElem hil⟩
      obtain ⟨b, o, rfl, x0, x1, x2, x3, x4, x5⟩ := (H.out.below (HB0.out.trans (HB.out.mono (Nat.le_of_lt hlt0)))).at hx
      obtain ⟨A3, c3, hxv, hc3, hi3⟩ := x5
      rw [hxv] at x4
      have lb := cell_lt' x0
      have HX := Lib.hid hx
      have HXV := Lib.hid hxv
      clear hi3 hc3 hx hxv
      have hsn : l.take (i + 1) = l.take i ++ [x] := by rw [List.take_add_one, HX.out]; rfl
      have HSN := Lib.hid hsn
      clear hsn
      go_wp2_with (at_builtin; refine wpList_append_own _ rfl _ _ 27 rfl W0.heap.size 73 i0 (.agg #[.int .u8 0, .string ⟨#[]⟩, .int .i64 0, .int .i64 0, .slice none 0 0]) 5 64 Tryz.underlying27 hi0 hz0 hz1 hz2 rfl (by decide) _ _ _ rfl ((HOWN.out.alloc _).alloc _) ⟨wr.heap.size + 1, 0, none⟩ 1 1 [.int .u8 x.1.kind, .string ⟨x.1.text.toArray⟩, .int .i64 x.1.n, .int .i64 x.1.at', .slice A3 x.1.kids.length c3] rfl rfl (World.news_of_block (cs := #[.int .u8 x.1.kind, .string ⟨x.1.text.toArray⟩, .int .i64 x.1.n, .int .i64 x.1.at', .slice A3 x.1.kids.length c3]) (t := 73) (fr := (0, 0)) (heap_new_at (wr.alloc _) _ (by simp))) (by simp [Value.oneCell']) (by unfold maxLen; omega) (by omega) ?_ ?_)
      · have := HB.out.size; simp; omega
      intro v' w6 hown6 hgrow _
      go_wp2_with fail
      cases gk with
      | zero => omega
      | succ gk =>
        go_roundg gk
        case measure => omega
        case rel =>
          refine ⟨i + 1, by omega, by omega, by simp, Lib.hid (((HB.out.alloc HB.out.size _).alloc (by have := HB.out.size; simp; omega) _).grown hgrow (by have := HB.out.size; simp; omega) (fun q e => (HOWN.out.lt q e).1)), Lib.hid ?_⟩
          rw [HSN.out, pvsC_snoc]
          unfold pvC
          rw [HXV.out]
          exact hown6
end Go.Proofs.YtkkeocnnecegbaaGreatDoor

/- The reference's Same. By an AI agent. -/
namespace Go.Proofs.YtkkeocnnecegbaaGreatDoor
open Go.RowKit

theorem sameG_no {l m : List PV} {i : Nat} {x y : PV} (hx : l[i]? = some x) (hy : m[i]? = some y) (h : ¬ sameN x.1 y.1) : decide (sameG (gns l) (gns m)) = false := decide_eq_false (fun hh => h (hh.2 i _ _ (gns_at hx) (gns_at hy)))

set_option maxRecDepth 100000 in
set_option maxHeartbeats 16000000 in
theorem rsame_any (A A2 : Option Addr) (c c2 : Nat) (l m : List PV) (w : World) (h : NodR w A l) (k : NodR w A2 m) (hl : l.length ≤ 1000000) (hm : m.length ≤ 1000000) (hkl : ∀ g ∈ l, g.1.kids.length ≤ 1000000) (hkm : ∀ g ∈ m, g.1.kids.length ≤ 1000000) :
    Calls Tryz.prog 23 #[.slice A l.length c, .slice A2 m.length c2] w fun e w' => e = .returned (.bool (decide (sameG (gns l) (gns m)))) ∧ Below w.heap.size w w' := by
  have H := Lib.hid h; have K := Lib.hid k; have HKL := Lib.hid hkl; have HKM := Lib.hid hkm
  clear h k hkl hkm
  obtain ⟨n, hn⟩ : ∃ n, n = l.length := ⟨_, rfl⟩
  obtain ⟨n2, hn2⟩ : ∃ n, n = m.length := ⟨_, rfl⟩
  have HN := Lib.hid hn; have HN2 := Lib.hid hn2
  rw [← hn] at hl ⊢
  rw [← hn2] at hm ⊢
  clear hn hn2
  go_enter Tryz.func23, Tryz.ntmps23
  by_cases hnn : n = n2
  case neg =>
    have HNN := Lib.hid hnn
    have hb : ((n : Int) != (n2 : Int)) = true := by simp; omega
    have hno : decide (sameG (gns l) (gns m)) = false := decide_eq_false (fun hh => hnn (by have := hh.1; rw [gns_len, gns_len, ← HN.out, ← HN2.out] at this; exact this))
    have HNO := Lib.hid hno
    clear hno hnn
    go_wp2_with fail
    go_ret
    exact ⟨ret_b HNO.out.symm, Below.refl _ _⟩
  case pos =>
    subst hnn
    have hb : ((n : Int) != (n : Int)) = false := by simp
    go_wp2_with fail
    go_loopg [5] n (fun gk v wr => ∃ i : Nat, i ≤ n ∧ n - i ≤ gk ∧ v = .int .i64 i ∧ Hid (Below w.heap.size w wr) ∧ Hid (sameG ((gns l).take i) ((gns m).take i)))
    case atStart => exact ⟨0, Nat.zero_le _, Nat.le_refl _, rfl, Lib.hid (Below.refl _ _), Lib.hid ⟨rfl, fun j u v hu hv => by simp at hu⟩⟩
    case round =>
      obtain ⟨i, hi, hgk, rfl, HB, HS⟩ := hrel
      by_cases hlt : i < n
      case neg =>
        have hieq : i = n := by omega
        subst hieq
        have hyes : decide (sameG (gns l) (gns m)) = true := decide_eq_true (by
          have := HS.out
          have q1 : (gns l).take i = gns l := List.take_of_length_le (by rw [gns_len]; exact Nat.le_of_eq HN.out.symm)
          have q2 : (gns m).take i = gns m := List.take_of_length_le (by rw [gns_len]; exact Nat.le_of_eq HN2.out.symm)
          rw [q1, q2] at this
          exact this)
        have HY := Lib.hid hyes
        clear hyes
        go_wp2_with fail
        go_ret
        exact ⟨ret_b HY.out.symm, HB.out⟩
      case pos =>
        obtain ⟨ko, rfl⟩ : ∃ ko, gk = ko + 1 := ⟨gk - 1, by omega⟩
        have hil : i < l.length := by rw [← HN.out]; exact hlt
        have him : i < m.length := by rw [← HN2.out]; exact hlt
        obtain ⟨x, hx⟩ : ∃ x, l[i]? = some x := ⟨_, List.getElem?_eq_getElem hil⟩
        obtain ⟨y, hy⟩ : ∃ y, m[i]? = some y := ⟨_, List.getElem?_eq_getElem him⟩
        obtain ⟨b, o, rfl, x0, x1, x2, x3, x4, x5⟩ := (H.out.below HB.out).at hx
        obtain ⟨b2, o2, rfl, y0, y1, y2, y3, y4, y5⟩ := (K.out.below HB.out).at hy
        have lb := cell_lt' x0
        have lb2 := cell_lt' y0
        obtain ⟨A3, c3, hxv, hc3, hi3⟩ := x5
        obtain ⟨A4, c4, hyv, hc4, hi4⟩ := y5
        have hkx := HKL.out x (List.mem_of_getElem? hx)
        have hky := HKM.out y (List.mem_of_getElem? hy)
        rw [hxv] at x4
        rw [hyv] at y4
        have I3 := Lib.hid hi3; have I4 := Lib.hid hi4
        have HX := Lib.hid hx; have HYY := Lib.hid hy
        clear hi3 hi4 hc3 hc4 hx hy hxv hyv
        obtain ⟨⟨xk, xt, xn, xa, xs⟩, xv⟩ := x
        obtain ⟨⟨yk, yt, yn, ya, ys⟩, yv⟩ := y
        simp only [] at x0 x1 x2 x3 x4 y0 y1 y2 y3 y4 hkx hky
        have hli : (i : Int) < (n : Int) := by omega
        have hli0 : (0 : Int) ≤ (i : Int) := by omega
        by_cases hk : xk = yk
        case neg =>
          have hkb : ((xk : Int) != (yk : Int)) = true := by simp; omega
          have HNO := Lib.hid (sameG_no HX.out HYY.out (fun hh => hk hh.1))
          clear hk
          go_wp2_with fail
          go_quiet (fail)
          go_wp2_with fail
          go_ret
          exact ⟨ret_b HNO.out.symm, HB.out.trans ⟨rfl, rfl, rfl, Nat.le_refl _, fun _ _ => rfl⟩⟩
        case pos =>
          subst hk
          have hkb : ((xk : Int) != (xk : Int)) = false := by simp
          by_cases ht : xt = yt
          case neg =>
            have htb : (xt == yt) = false := by simpa using ht
            have htb2 : (xt != yt) = true := by simp [bne, htb]
            have HNO := Lib.hid (sameG_no HX.out HYY.out (fun hh => ht hh.2.1))
            clear ht
            go_wp2_with fail
            go_quiet (fail)
            go_wp2_with fail
            go_ret
            exact ⟨ret_b HNO.out.symm, HB.out.trans ⟨rfl, rfl, rfl, Nat.le_refl _, fun _ _ => rfl⟩⟩
          case pos =>
            subst ht
            have htb : (xt == xt) = true := by simp
            have htb2 : (xt != xt) = false := by simp
            by_cases hn : xn = yn
            case neg =>
              have hnb : (xn != yn) = true := by simpa using hn
              have HNO := Lib.hid (sameG_no HX.out HYY.out (fun hh => hn hh.2.2.1))
              clear hn
              go_wp2_with fail
              go_quiet (fail)
              go_wp2_with fail
              go_ret
              exact ⟨ret_b HNO.out.symm, HB.out.trans ⟨rfl, rfl, rfl, Nat.le_refl _, fun _ _ => rfl⟩⟩
            case pos =>
              subst hn
              have hnb : (xn != xn) = false := by simp
              by_cases hq : xs.length = ys.length
              case neg =>
                have hqb : ((xs.length : Int) != (ys.length : Int)) = true := by simp; omega
                have HNO := Lib.hid (sameG_no HX.out HYY.out (fun hh => hq (congrArg List.length hh.2.2.2)))
                clear hq
                go_wp2_with fail
                go_quiet (fail)
                go_wp2_with fail
                go_ret
                exact ⟨ret_b HNO.out.symm, HB.out.trans ⟨rfl, rfl, rfl, Nat.le_refl _, fun _ _ => rfl⟩⟩
              case pos =>
                obtain ⟨kn, hkn⟩ : ∃ kn, kn = xs.length := ⟨_, rfl⟩
                rw [← hkn] at x4 hkx hq
                rw [← hq] at y4 hky
                have HQ := Lib.hid hq
                have HKN := Lib.hid hkn
                clear hq hkn
                have hqb : ((kn : Int) != (kn : Int)) = false := by simp
                go_wp2_with fail
                go_quiet (fail)
                go_wp2_with fail
                go_loopg [6] kn (fun gq v wq => ∃ j q : Nat, j ≤ kn ∧ kn - j ≤ gq ∧ v = .int .i64 j ∧ wq = wr.drewN q ∧ Hid (∀ t, t < j → xs[t]? = ys[t]?))
                case atStart => exact ⟨0, _, Nat.zero_le _, Nat.le_refl _, rfl, rfl, Lib.hid (fun t ht => by omega)⟩
                case round =>
                  obtain ⟨j, q, hj, hgq, rfl, rfl, HE⟩ := hrel
                  by_cases hjl : j < kn
                  case neg =>
                    have HXY : Hid (xs = ys) := Lib.hid (by
                      apply List.ext_getElem?
                      intro t
                      by_cases ht : t < j
                      · exact HE.out t ht
                      · rw [List.getElem?_eq_none (by have := HKN.out; omega), List.getElem?_eq_none (by have := HQ.out; omega)])
                    have HS2 := Lib.hid (sameG_take HS.out (gns_at HX.out) (gns_at HYY.out) ⟨rfl, rfl, rfl, HXY.out⟩)
                    go_wp2_with fail
                    go_roundg ko
                    case measure => omega
                    case rel => exact ⟨i + 1, by omega, by omega, by simp, Lib.hid (HB.out.trans ⟨rfl, rfl, rfl, Nat.le_refl _, fun _ _ => rfl⟩), HS2⟩
                  case pos =>
                    have hjx : j < xs.length := by rw [← HKN.out]; exact hjl
                    have hjy : j < ys.length := by rw [← HQ.out]; exact hjl
                    have hjc : (j : Int) < (kn : Int) := by omega
                    have hjc0 : (0 : Int) ≤ (j : Int) := by omega
                    rcases I3.out with h0 | ⟨b3, o3, rfl, h3⟩
                    · exfalso; rw [h0] at hjx; simp at hjx
                    rcases I4.out with h0 | ⟨b4, o4, rfl, h4⟩
                    · exfalso; rw [h0] at hjy; simp at hjy
                    have k3 : wr.cell? ⟨b3, o3 + j, none⟩ = some (.int .i64 xs[j]) := h3 j _ (List.getElem?_eq_getElem hjx)
                    have k4 : wr.cell? ⟨b4, o4 + j, none⟩ = some (.int .i64 ys[j]) := h4 j _ (List.getElem?_eq_getElem hjy)
                    have HXJ : Hid (xs[j]? = some xs[j]) := Lib.hid (List.getElem?_eq_getElem hjx)
                    have HYJ : Hid (ys[j]? = some ys[j]) := Lib.hid (List.getElem?_eq_getElem hjy)
                    generalize xs[j] = xj at *
                    generalize ys[j] = yj at *
                    clear h3 h4
                    by_cases he : xj = yj
                    case neg =>
                      have heb : (xj != yj) = true := by simpa using he
                      have HNO := Lib.hid (sameG_no HX.out HYY.out (fun hh => he (by
                        have h1 : xs = ys := hh.2.2.2
                        have h2 := HXJ.out
                        rw [h1, HYJ.out] at h2
                        injection h2 with h2
                        exact h2.symm)))
                      clear he
                      go_wp2_with fail
                      go_quiet (fail)
                      go_wp2_with fail
                      go_ret
                      exact ⟨ret_b HNO.out.symm, HB.out.trans ⟨rfl, rfl, rfl, Nat.le_refl _, fun _ _ => rfl⟩⟩
                    case pos =>
                      subst he
                      have heb : (xj != xj) = false := by simp
                      go_wp2_with fail
                      go_quiet (fail)
                      go_wp2_with fail
                      cases gk with
                      | zero => omega
                      | succ gk =>
                        go_roundg gk
                        case measure => omega
                        case rel => exact ⟨j + 1, _, by omega, by omega, by simp, rfl, Lib.hid (fun t ht => by
                          by_cases htj : t < j
                          · exact HE.out t htj
                          · have : t = j := by omega
                            subst this
                            rw [HXJ.out, HYJ.out])⟩
end Go.Proofs.YtkkeocnnecegbaaGreatDoor

/- The walks over the reference's small functions of layer 13 (letter, digit, blank, among, words, marks). By an AI agent. -/
namespace Go.Proofs.YtkkeocnnecegbaaGreatDoor
open Go.RowKit

def strL (l : List (List UInt8)) : List Value := l.map fun x => .string ⟨x.toArray⟩
set_option maxHeartbeats 400000 in
theorem rdigit_any (c : UInt8) (w : World) :
    Calls Tryz.prog 128 #[.int .u8 c.toNat] w fun e w' => e = .returned (.bool (isDig c)) ∧ w = w' := by
  rw [isDig_int]
  go_enter Tryz.func128, Tryz.ntmps128
  go_wp2_with fail
  all_goals go_ret
  all_goals exact ⟨ret_bool (by first | (rw [Bool.eq_iff_iff]; simp; omega) | (rw [Bool.eq_iff_iff]; simp; done) | (rw [Bool.eq_iff_iff]; done) | (simp; omega)), rfl⟩

set_option maxHeartbeats 400000 in
theorem rletter_any (c : UInt8) (w : World) :
    Calls Tryz.prog 125 #[.int .u8 c.toNat] w fun e w' => e = .returned (.bool (isLet c)) ∧ w = w' := by
  rw [isLet_int]
  go_enter Tryz.func125, Tryz.ntmps125
  go_wp2_with fail
  all_goals go_ret
  all_goals exact ⟨ret_bool (by first | (rw [Bool.eq_iff_iff]; simp; omega) | (rw [Bool.eq_iff_iff]; simp; done) | (rw [Bool.eq_iff_iff]; done) | (simp; omega)), rfl⟩

theorem isBlk_int (c : UInt8) : isBlk c = (decide ((c.toNat : Int) = 32) || decide ((c.toNat : Int) = 9) || decide ((c.toNat : Int) = 13) || decide ((c.toNat : Int) = 10)) := by
  unfold isBlk
  rw [Bool.eq_iff_iff]
  simp [← UInt8.toNat_inj]
  omega
set_option maxHeartbeats 400000 in
theorem rblank_any (c : UInt8) (w : World) :
    Calls Tryz.prog 130 #[.int .u8 c.toNat] w fun e w' => e = .returned (.bool (isBlk c)) ∧ w = w' := by
  rw [isBlk_int]
  go_enter Tryz.func130, Tryz.ntmps130
  go_wp2_with fail
  all_goals go_ret
  all_goals exact ⟨ret_bool (by first | (rw [Bool.eq_iff_iff]; simp; omega) | (rw [Bool.eq_iff_iff]; simp; done) | (rw [Bool.eq_iff_iff]; done) | (simp; omega)), rfl⟩

theorem words_any (w : World) : Calls Tryz.prog 127 #[] w fun e w' => e = .returned (.slice (some ⟨w.heap.size, 0, none⟩) wordL.length wordL.length) ∧ w' = w.alloc (.cells (strL wordL).toArray 9) := by
  go_enter Tryz.func127, Tryz.ntmps127
  go_wp2_with fail
  go_ret
  exact ⟨rfl, rfl⟩
def marksL : List (List UInt8) := [[40], [41], [123], [125], [91], [93], [44], [59], [61], [60], [60, 61], [61, 61], [33, 61], [43], [45], [124], [94], [42], [47], [37], [38], [60, 60], [62, 62], [33]]
theorem marks_any (w : World) : Calls Tryz.prog 169 #[] w fun e w' => e = .returned (.slice (some ⟨w.heap.size, 0, none⟩) marksL.length marksL.length) ∧ w' = w.alloc (.cells (strL marksL).toArray 9) := by
  go_enter Tryz.func169, Tryz.ntmps169
  go_wp2_with fail
  go_ret
  exact ⟨rfl, rfl⟩

def StrAt (w : World) (b : Nat) (L : List (List UInt8)) : Prop := ∀ i x, L[i]? = some x → w.cell? ⟨b, i, none⟩ = some (.string ⟨x.toArray⟩)
theorem strAt_new (w : World) (L : List (List UInt8)) : StrAt (w.alloc (.cells (strL L).toArray 9)) w.heap.size L := by
  intro i x hx
  rw [World.cell?_alloc_mark, ← Array.getElem?_toList]
  simp [strL, hx]

set_option maxHeartbeats 1000000 in
theorem among_any (s : ByteArray) (b c : Nat) (L : List (List UInt8)) (w : World) (hn : L.length ≤ 1000000) (hL : StrAt w b L) :
    Calls Tryz.prog 126 #[.string s, .slice (some ⟨b, 0, none⟩) L.length c] w fun e w' => e = .returned (.bool (decide (s.data.toList ∈ L))) ∧ w = w' := by
  have HL := Lib.hid hL; clear hL
  obtain ⟨n, hn'⟩ : ∃ n, n = L.length := ⟨_, rfl⟩
  have HN := Lib.hid hn'
  rw [← hn'] at hn ⊢
  clear hn'
  go_enter Tryz.func126, Tryz.ntmps126
  go_wp2_with fail
  go_loop [5] (fun i => ∃ k : Nat, k ≤ n ∧ i = .int .i64 k ∧ s.data.toList ∉ L.take k) (fun i => n - (intOf i).toNat)
  case atStart => exact ⟨0, Nat.zero_le _, rfl, by simp⟩
  case round =>
    obtain ⟨k, hk, rfl, hall⟩ := hrel
    have H := Lib.hid hall; clear hall
    by_cases hlt : k < n
    · obtain ⟨x, hx⟩ : ∃ x, L[k]? = some x := ⟨_, List.getElem?_eq_getElem (by rw [← HN.out]; exact hlt)⟩
      have hcell := HL.out k x hx
      have HX := Lib.hid hx; clear hx
      have hsl : s.toList = s.data.toList := ByteArray.toList_eq s
      have HS := Lib.hid hsl
      clear hsl
      by_cases he : x = s.data.toList
      · have ht : (x == s.toList) = true := by rw [HS.out, he]; simp
        have hmem : s.data.toList ∈ L := he ▸ List.mem_of_getElem? HX.out
        have HM := Lib.hid hmem
        clear hmem he
        go_wp2_with fail
        go_ret
        exact ⟨ret_bool (by simp [HM.out]), rfl⟩
      · have ht : (x == s.toList) = false := by rw [HS.out]; simp [he]
        have HE := Lib.hid he
        clear he
        go_wp2_with fail
        go_round
        case rel => exact ⟨k + 1, by omega, by go_num, by
          rw [List.take_add_one, HX.out, List.mem_append]
          rintro (h | h)
          · exact H.out h
          · simp at h; exact HE.out h.symm⟩
        case measure => simp [intOf]; omega
    · have hjn : L.take k = L := List.take_of_length_le (by rw [← HN.out]; omega)
      rw [hjn] at H
      clear hjn
      go_wp2_with fail
      go_ret
      exact ⟨ret_bool (by simp [H.out]), rfl⟩
end Go.Proofs.YtkkeocnnecegbaaGreatDoor

/- The walks over lex.IsName, the reference's IsName, and both Spells over tokens made by hand. By an AI agent. -/
namespace Go.Proofs.YtkkeocnnecegbaaGreatDoor
open Go.RowKit

theorem name_len {l : List UInt8} {c : UInt8} {r : List UInt8} (h : l = c :: r) : isNameS l = (isLet c && !isWordS l && manyS isWd l == l.length) := by
  subst h; rfl
theorem emp_list (s : ByteArray) (h : s.size = 0) : s.toList = [] := by
  rw [ByteArray.toList_eq]; exact List.eq_nil_of_length_eq_zero (by rw [len_eq]; exact h)
theorem emp_not (s : ByteArray) (h : 0 < s.size) : s.toList.isEmpty = false := by
  rw [ByteArray.toList_eq]
  cases hl : s.data.toList with
  | nil => have := len_eq s; rw [hl] at this; simp at this; omega
  | cons _ _ => rfl

set_option maxHeartbeats 1000000 in
theorem isName_any (s : ByteArray) (w : World) (hs : s.size ≤ 1000000) :
    Calls Tryz.prog 86 #[.string s] w fun e w' => e = .returned (.bool (isNameS s.data.toList)) ∧ Below w.heap.size w w' := by
  by_cases h0 : s.size = 0
  · have hv : isNameS s.data.toList = false := by rw [List.eq_nil_of_length_eq_zero ((len_eq s).trans h0)]; rfl
    have HV := Lib.hid hv
    have he := emp_list s h0
    clear hv
    go_enter Tryz.func86, Tryz.ntmps86
    go_wp2_with fail
    go_ret
    exact ⟨ret_bool HV.out.symm, Below.refl _ _⟩
  · have hp : 0 < s.size := by omega
    obtain ⟨r, hr⟩ := head_of s hp
    have hp' : (0 : Int) < (s.size : Int) := by omega
    have he := emp_not s hp
    have he' : (!s.toList.isEmpty) = true := by rw [he]; rfl
    generalize hc : s[0]'hp = c at hr
    have hv := name_len hr
    have HV := Lib.hid hv
    clear hv hr h0
    cases hl : isLet c
    · have HL := Lib.hid hl; clear hl
      go_enter Tryz.func86, Tryz.ntmps86
      go_wp2_with fail
      refine (letter_any c _).mono ?_; rw [HL.out]; rintro e w' ⟨rfl, rfl⟩
      go_wp2_with fail
      go_ret
      exact ⟨ret_bool (by rw [HV.out, HL.out]; rfl), Below.refl _ _⟩
    · have HL := Lib.hid hl; clear hl
      cases hw : isWordS s.data.toList
      · have HW := Lib.hid hw; clear hw
        obtain ⟨n, hn⟩ : ∃ n, n = manyS isWd s.data.toList := ⟨_, rfl⟩
        have HN := Lib.hid hn; clear hn
        by_cases hm : n = s.size
        · subst hm
          go_enter Tryz.func86, Tryz.ntmps86
          go_wp2_with fail
          refine (letter_any c _).mono ?_; rw [HL.out]; rintro e w' ⟨rfl, rfl⟩
          go_wp2_with fail
          refine (isWord_any s _).mono ?_; rw [HW.out]; rintro e w' ⟨rfl, rfl⟩
          go_wp2_with fail
          refine (or_any _).mono ?_; rintro e w1 ⟨rfl, rfl⟩
          go_wp2_with fail
          refine (many_word s _ _ _ hs (by simp) (by simp)).mono ?_; rw [← HN.out]; rintro e w1 ⟨rfl, rfl⟩
          go_wp2_with fail
          go_ret
          exact ⟨ret_bool (by rw [HV.out, HL.out, HW.out, ← HN.out, len_eq]; simp), ((Below.refl _ _).alloc (by simp) _).alloc (by simp) _⟩
        · have hm1 : (n == s.size) = false := by simp [hm]
          have hm2 : ((n : Int) == (s.size : Int)) = false := by rw [beq_eq_false_iff_ne]; omega
          have hm3 : ¬ (n : Int) = (s.size : Int) := by omega
          go_enter Tryz.func86, Tryz.ntmps86
          go_wp2_with fail
          refine (letter_any c _).mono ?_; rw [HL.out]; rintro e w' ⟨rfl, rfl⟩
          go_wp2_with fail
          refine (isWord_any s _).mono ?_; rw [HW.out]; rintro e w' ⟨rfl, rfl⟩
          go_wp2_with fail
          refine (or_any _).mono ?_; rintro e w1 ⟨rfl, rfl⟩
          go_wp2_with fail
          refine (many_word s _ _ _ hs (by simp) (by simp)).mono ?_; rw [← HN.out]; rintro e w1 ⟨rfl, rfl⟩
          go_wp2_with fail
          go_ret
          exact ⟨ret_bool (by rw [HV.out, HL.out, HW.out, ← HN.out, len_eq, hm1]; rfl), ((Below.refl _ _).alloc (by simp) _).alloc (by simp) _⟩
      · have HW := Lib.hid hw; clear hw
        go_enter Tryz.func86, Tryz.ntmps86
        go_wp2_with fail
        refine (letter_any c _).mono ?_; rw [HL.out]; rintro e w' ⟨rfl, rfl⟩
        go_wp2_with fail
        refine (isWord_any s _).mono ?_; rw [HW.out]; rintro e w' ⟨rfl, rfl⟩
        go_wp2_with fail
        go_ret
        exact ⟨ret_bool (by rw [HV.out, HL.out, HW.out]; rfl), Below.refl _ _⟩

set_option maxHeartbeats 1000000 in
theorem rIsName_any (s : ByteArray) (w : World) (hs : s.size ≤ 1000000) :
    Calls Tryz.prog 72 #[.string s] w fun e w' => e = .returned (.bool (isNameS s.data.toList)) ∧ Below w.heap.size w w' := by
  by_cases h0 : s.size = 0
  · have hv : isNameS s.data.toList = false := by rw [List.eq_nil_of_length_eq_zero ((len_eq s).trans h0)]; rfl
    have HV := Lib.hid hv
    have he := emp_list s h0
    clear hv
    go_enter Tryz.func72, Tryz.ntmps72
    go_wp2_with fail
    go_ret
    exact ⟨ret_bool HV.out.symm, Below.refl _ _⟩
  · have hp : 0 < s.size := by omega
    obtain ⟨r, hr⟩ := head_of s hp
    have hp' : (0 : Int) < (s.size : Int) := by omega
    have he := emp_not s hp
    have he' : (!s.toList.isEmpty) = true := by rw [he]; rfl
    generalize hc : s[0]'hp = c at hr
    have hv := name_len hr
    have HV := Lib.hid hv
    have HC := Lib.hid hc
    clear hv hr h0
    cases hl : isLet c
    · have HL := Lib.hid hl; clear hl
      go_enter Tryz.func72, Tryz.ntmps72
      go_wp2_with fail
      refine (rletter_any c _).mono ?_; rw [HL.out]; rintro e w' ⟨rfl, rfl⟩
      go_wp2_with fail
      go_ret
      exact ⟨ret_bool (by rw [HV.out, HL.out]; rfl), Below.refl _ _⟩
    · have HL := Lib.hid hl; clear hl
      have AM := Lib.hid (fun w => among_any s w.heap.size wordL.length wordL _ (by decide) (strAt_new w wordL) : ∀ w : World, _)
      cases hw : isWordS s.data.toList
      · have HW := Lib.hid hw
        have hd : decide (s.data.toList ∈ wordL) = false := hw
        have HD := Lib.hid hd
        clear hw hd
        go_enter Tryz.func72, Tryz.ntmps72
        go_wp2_with fail
        refine (rletter_any c _).mono ?_; rw [HL.out]; rintro e w' ⟨rfl, rfl⟩
        go_wp2_with fail
        refine (words_any _).mono ?_; rintro e w1 ⟨rfl, rfl⟩
        go_wp2_with fail
        refine (AM.out w).mono ?_; rw [HD.out]; rintro e w1 ⟨rfl, rfl⟩
        clear hc
        go_wp2_with fail
        go_loop [3] (fun i => ∃ k : Nat, k ≤ s.size ∧ i = .int .i64 k ∧ ∀ j (h : j < s.data.toList.length), j < k → isWd s.data.toList[j] = true) (fun i => s.size - (intOf i).toNat)
        case atStart => exact ⟨0, Nat.zero_le _, rfl, fun j _ hj => absurd hj (Nat.not_lt_zero _)⟩
        case round =>
          obtain ⟨k, hk, rfl, hall⟩ := hrel
          have H := Lib.hid hall; clear hall
          by_cases hlt : k < s.size
          · have HB := Lib.hid (byte_at s k hlt)
            cases hd : isLet s[k]
            · have HD1 := Lib.hid hd; clear hd
              cases hd : isDig s[k]
              · have HD2 := Lib.hid hd; clear hd
                go_wp2_with fail
                refine (rletter_any s[k] _).mono ?_; rw [HD1.out]; rintro e w' ⟨rfl, rfl⟩
                go_wp2_with fail
                refine (rdigit_any s[k] _).mono ?_; rw [HD2.out]; rintro e w' ⟨rfl, rfl⟩
                go_wp2_with fail
                go_ret
                refine ⟨ret_bool ?_, (Below.refl _ _).alloc (by simp) _⟩
                have hm := manyS_at (p := isWd) (k := k) (by rw [len_eq]; exact hlt) (fun j h hj => H.out j h hj) (by rw [HB.out]; unfold isWd; rw [HD1.out, HD2.out]; rfl)
                rw [HV.out, hm, len_eq]
                have : (k == s.size) = false := by simp; omega
                rw [this, Bool.and_false]
              · have HD2 := Lib.hid hd; clear hd
                go_wp2_with fail
                refine (rletter_any s[k] _).mono ?_; rw [HD1.out]; rintro e w' ⟨rfl, rfl⟩
                go_wp2_with fail
                refine (rdigit_any s[k] _).mono ?_; rw [HD2.out]; rintro e w' ⟨rfl, rfl⟩
                go_wp2_with fail
                go_round
                case rel => exact ⟨k + 1, by omega, by go_num, fun j h hj => by
                  by_cases hjk : j = k
                  · subst hjk; rw [HB.out]; unfold isWd; rw [HD1.out, HD2.out]; rfl
                  · exact H.out j h (by omega)⟩
                case measure => simp [intOf]; omega
            · have HD1 := Lib.hid hd; clear hd
              go_wp2_with fail
              refine (rletter_any s[k] _).mono ?_; rw [HD1.out]; rintro e w' ⟨rfl, rfl⟩
              go_wp2_with fail
              go_round
              case rel => exact ⟨k + 1, by omega, by go_num, fun j h hj => by
                by_cases hjk : j = k
                · subst hjk; rw [HB.out]; unfold isWd; rw [HD1.out]; rfl
                · exact H.out j h (by omega)⟩
              case measure => simp [intOf]; omega
          · have hka : ∀ j (h : j < s.data.toList.length), isWd s.data.toList[j] = true := fun j h => H.out j h (by rw [len_eq] at h; omega)
            have HM := Lib.hid (manyS_all hka)
            clear hka
            go_wp2_with fail
            go_ret
            refine ⟨ret_bool ?_, (Below.refl _ _).alloc (by simp) _⟩
            rw [HV.out, HL.out, HW.out, HM.out]; simp
      · have HW := Lib.hid hw
        have hd : decide (s.data.toList ∈ wordL) = true := hw
        have HD := Lib.hid hd
        clear hw hd
        go_enter Tryz.func72, Tryz.ntmps72
        go_wp2_with fail
        refine (rletter_any c _).mono ?_; rw [HL.out]; rintro e w' ⟨rfl, rfl⟩
        go_wp2_with fail
        refine (words_any _).mono ?_; rintro e w1 ⟨rfl, rfl⟩
        go_wp2_with fail
        refine (AM.out w).mono ?_; rw [HD.out]; rintro e w1 ⟨rfl, rfl⟩
        go_wp2_with fail
        go_ret
        exact ⟨ret_bool (by rw [HV.out, HW.out]; simp), (Below.refl _ _).alloc (by simp) _⟩
end Go.Proofs.YtkkeocnnecegbaaGreatDoor

/- letter, kids, fits. By an AI agent. -/
namespace Go.Proofs.YtkkeocnnecegbaaGreatDoor
open Go.RowKit

def letterK (k : Nat) : Nat := if k = 2 ∨ k = 3 then 100 else if k = 4 then 112 else if k = 5 then 98 else if 6 ≤ k ∧ k ≤ 15 then 115 else if k = 16 then 99 else if 17 ≤ k ∧ k ≤ 21 then 101 else 63
def kidsK (k : Nat) : List UInt8 := if k = 1 then [100, 42] else if k = 3 then [112, 42, 98] else if k = 5 then [115, 42] else if k = 6 ∨ k = 7 ∨ k = 11 ∨ k = 12 ∨ k = 13 ∨ k = 19 ∨ k = 20 then [101] else if k = 8 ∨ k = 21 then [101, 101] else if k = 9 then [101, 98, 98] else if k = 10 then [101, 98] else if k = 15 then [99, 101, 42] else []

theorem small_or (k : Nat) : k = 0 ∨ k = 1 ∨ k = 2 ∨ k = 3 ∨ k = 4 ∨ k = 5 ∨ k = 6 ∨ k = 7 ∨ k = 8 ∨ k = 9 ∨ k = 10 ∨ k = 11 ∨ k = 12 ∨ k = 13 ∨ k = 14 ∨ k = 15 ∨ k = 16 ∨ k = 17 ∨ k = 18 ∨ k = 19 ∨ k = 20 ∨ k = 21 ∨ 22 ≤ k := by omega

set_option maxRecDepth 100000 in
set_option maxHeartbeats 16000000 in
theorem letter_any' (k : Nat) (w : World) : Calls Tryz.prog 85 #[.int .u8 k] w fun e w' => e = .returned (.int .u8 (letterK k)) ∧ w = w' := by
  rcases small_or k with h | h | h | h | h | h | h | h | h | h | h | h | h | h | h | h | h | h | h | h | h | h | h
  all_goals try subst h
  case inr.inr.inr.inr.inr.inr.inr.inr.inr.inr.inr.inr.inr.inr.inr.inr.inr.inr.inr.inr.inr.inr =>
    have b2 : ((k : Int) == 2) = false := by simp; omega
    have b3 : ((k : Int) == 3) = false := by simp; omega
    have b4 : ((k : Int) == 4) = false := by simp; omega
    have b5 : ((k : Int) == 5) = false := by simp; omega
    have b6 : decide ((6 : Int) ≤ (k : Int)) = true := by simp; omega
    have b15 : decide ((k : Int) ≤ 15) = false := by simp; omega
    have b16 : ((k : Int) == 16) = false := by simp; omega
    have b17 : decide ((17 : Int) ≤ (k : Int)) = true := by simp; omega
    have b21 : decide ((k : Int) ≤ 21) = false := by simp; omega
    have hk : letterK k = 63 := by unfold letterK; rw [if_neg (by omega), if_neg (by omega), if_neg (by omega), if_neg (by omega), if_neg (by omega), if_neg (by omega)]
    rw [hk]
    clear hk h
    go_enter Tryz.func85, Tryz.ntmps85
    go_wp2_with fail
    go_ret
    exact ⟨rfl, rfl⟩
  all_goals
    go_enter Tryz.func85, Tryz.ntmps85
    go_wp2_with fail
    go_ret
    exact ⟨rfl, rfl⟩

set_option maxRecDepth 100000 in
set_option maxHeartbeats 16000000 in
theorem kids_any (k : Nat) (w : World) : Calls Tryz.prog 139 #[.int .u8 k] w fun e w' => e = .returned (.string ⟨(kidsK k).toArray⟩) ∧ w = w' := by
  rcases small_or k with h | h | h | h | h | h | h | h | h | h | h | h | h | h | h | h | h | h | h | h | h | h | h
  all_goals try subst h
  case inr.inr.inr.inr.inr.inr.inr.inr.inr.inr.inr.inr.inr.inr.inr.inr.inr.inr.inr.inr.inr.inr =>
    have b1 : ((k : Int) == 1) = false := by simp; omega
    have b3 : ((k : Int) == 3) = false := by simp; omega
    have b5 : ((k : Int) == 5) = false := by simp; omega
    have b6 : ((k : Int) == 6) = false := by simp; omega
    have b7 : ((k : Int) == 7) = false := by simp; omega
    have b8 : ((k : Int) == 8) = false := by simp; omega
    have b9 : ((k : Int) == 9) = false := by simp; omega
    have b10 : ((k : Int) == 10) = false := by simp; omega
    have b11 : ((k : Int) == 11) = false := by simp; omega
    have b12 : ((k : Int) == 12) = false := by simp; omega
    have b13 : ((k : Int) == 13) = false := by simp; omega
    have b15 : ((k : Int) == 15) = false := by simp; omega
    have b19 : ((k : Int) == 19) = false := by simp; omega
    have b20 : ((k : Int) == 20) = false := by simp; omega
    have b21 : ((k : Int) == 21) = false := by simp; omega
    have hk : kidsK k = [] := by unfold kidsK; rw [if_neg (by omega), if_neg (by omega), if_neg (by omega), if_neg (by omega), if_neg (by omega), if_neg (by omega), if_neg (by omega), if_neg (by omega)]
    rw [hk]
    clear hk h
    go_enter Tryz.func139, Tryz.ntmps139
    go_wp2_with fail
    go_ret
    exact ⟨rfl, rfl⟩
  all_goals
    go_enter Tryz.func139, Tryz.ntmps139
    go_wp2_with fail
    go_ret
    exact ⟨rfl, rfl⟩

/-- Does a row of letters fit a pattern? -/
def matchP : List UInt8 → List UInt8 → Bool
  | [], l => l.isEmpty
  | c :: 42 :: r, l => matchP r (l.dropWhile (· == c))
  | c :: r, l => match l with
    | [] => false
    | d :: l' => (d == c) && matchP r l'
def patK (k n : Nat) : List UInt8 := if k = 9 ∧ n = 2 then [101, 98] else kidsK k
def letB (k : Nat) : UInt8 := UInt8.ofNat (letterK k)
theorem letB_nat (k : Nat) : (letB k).toNat = letterK k := by
  unfold letB letterK
  rw [UInt8.toNat_ofNat']
  split <;> (try split) <;> (try split) <;> (try split) <;> (try split) <;> (try split) <;> omega
end Go.Proofs.YtkkeocnnecegbaaGreatDoor

/- fits. By an AI agent. -/
namespace Go.Proofs.YtkkeocnnecegbaaGreatDoor
open Go.RowKit

theorem BytS.tail {w : World} {b o : Nat} {d : UInt8} {L : List UInt8} (h : ∀ i (h : i < (d :: L).length), w.cell? ⟨b, o + i, none⟩ = some (.int .u8 (d :: L)[i].toNat)) : BytS w (some ⟨b, o + 1, none⟩) L :=
  Or.inr ⟨b, o + 1, rfl, fun i hi => by
    have := h (i + 1) (by simp only [List.length_cons]; omega)
    rw [show o + 1 + i = o + (i + 1) by omega, this]; rfl⟩
theorem BytS.drewN {w : World} {a : Option Addr} {l : List UInt8} (h : BytS w a l) (q : Nat) : BytS (w.drewN q) a l := h
theorem pre_star (l : List UInt8) : Lib.hasPrefix l [42] = (l.head? == some 42) := by
  cases l with
  | nil => rfl
  | cons c r =>
    have h1 : Lib.hasPrefix (c :: r) [42] = ((42 == c) && true) := rfl
    rw [h1, Bool.and_true, List.head?_cons, Option.some_beq_some]
    exact BEq.comm

def matchD (c : UInt8) (r : List UInt8) : List UInt8 → Bool
  | [] => false
  | d :: l' => (d == c) && matchP r l'
theorem match_one {c : UInt8} {r l : List UInt8} (h : (r.head? == some 42) = false) : matchP (c :: r) l = matchD c r l := by
  rw [matchP.eq_def]
  split
  · rename_i h2; cases h2
  · rename_i h2; injection h2 with h2 h3; subst h3; simp at h
  · rename_i h2 h3; injection h3 with h3 h4; subst h3 h4; unfold matchD; rfl

set_option maxRecDepth 100000 in
set_option maxHeartbeats 16000000 in
theorem fits_any (k : Nat) (L : List UInt8) (A : Option Addr) (c : Nat) (w : World) (hL : BytS w A L) (hc : L.length ≤ c) (hn : L.length ≤ 1000000) :
    Calls Tryz.prog 87 #[.int .u8 k, .slice A L.length c] w fun e w' => e = .returned (.bool (matchP (patK k L.length) L)) ∧ Below w.heap.size w w' := by
  obtain ⟨s0, hs0⟩ : ∃ s : ByteArray, s = ⟨(patK k L.length).toArray⟩ := ⟨_, rfl⟩
  have HS0 : Hid (s0.data.toList = patK k L.length) := Lib.hid (by rw [hs0])
  have HM : Hid (matchP s0.data.toList L = matchP (patK k L.length) L) := Lib.hid (by rw [HS0.out])
  have hsz0 : s0.size ≤ 3 := by
    rw [← len_eq, HS0.out]
    unfold patK kidsK
    repeat' split
    all_goals decide
  generalize hM : matchP (patK k L.length) L = M at HM ⊢
  have HL := Lib.hid hL
  clear hL hM
  rcases (show (¬ k = 9) ∨ (k = 9 ∧ ¬ L.length = 2) ∨ (k = 9 ∧ L.length = 2) by omega) with h9 | ⟨h9, h2⟩ | ⟨h9, h2⟩
  have hpk : kidsK k = patK k L.length := by unfold patK; rw [if_neg (fun h => h9 h.1)]
  have hb9 : ((k : Int) == 9) = false := by simp; omega
  go_enter Tryz.func87, Tryz.ntmps87
  go_wp2_with fail
  refine (kids_any k w).mono ?_; rw [hpk, ← hs0]; rintro e w' ⟨rfl, rfl⟩
  clear hpk hs0
  go_wp2_with fail
  rotate_left
  subst h9
  have hpk : kidsK 9 = patK 9 L.length := by unfold patK; rw [if_neg (fun h => h2 h.2)]
  have hb2 : ((L.length : Int) == 2) = false := by simp; omega
  go_enter Tryz.func87, Tryz.ntmps87
  go_wp2_with fail
  refine (kids_any 9 w).mono ?_; rw [hpk, ← hs0]; rintro e w' ⟨rfl, rfl⟩
  clear hpk hs0
  go_wp2_with fail
  rotate_left
  subst h9
  have hpk : (⟨#[101, 98]⟩ : ByteArray) = s0 := by rw [hs0, h2]; rfl
  have hb2 : ((L.length : Int) == 2) = true := by simp [h2]
  clear h2
  go_enter Tryz.func87, Tryz.ntmps87
  go_wp2_with fail
  refine (kids_any 9 w).mono ?_; rintro e w' ⟨rfl, rfl⟩
  clear hs0
  go_wp2_with fail
  rw [hpk]
  clear hpk
  rotate_left
  all_goals
    go_loopg [1, 5] 3 (fun gk v1 v5 wr => ∃ (s : ByteArray) (L' : List UInt8) (A' : Option Addr) (c' q : Nat), s.size ≤ gk ∧ v5 = .string s ∧ v1 = .slice A' L'.length c' ∧ L'.length ≤ c' ∧ L'.length ≤ 1000000 ∧ wr = w.drewN q ∧ Hid (BytS w A' L') ∧ Hid (matchP s.data.toList L' = M))
    case atStart => exact ⟨s0, L, A, c, 0, hsz0, rfl, rfl, hc, hn, rfl, HL, HM⟩
    case round =>
      obtain ⟨s, L', A', c', q, hsz, rfl, rfl, hc', hn', rfl, HL', HM'⟩ := hrel
      by_cases hz : s.size = 0
      case pos =>
        have hsl : s.data.toList = [] := List.eq_nil_of_length_eq_zero ((len_eq s).trans hz)
        have HR : Hid (((L'.length : Int) == 0) = M) := Lib.hid (by rw [← HM'.out, hsl]; cases L' <;> simp [matchP]; omega)
        clear hsl
        go_wp2_with fail
        go_ret
        exact ⟨ret_b HR.out, ⟨rfl, rfl, rfl, Nat.le_refl _, fun _ _ => rfl⟩⟩
      case neg =>
        obtain ⟨ko, rfl⟩ : ∃ ko, gk = ko + 1 := ⟨gk - 1, by omega⟩
        have hp : 0 < s.size := by omega
        obtain ⟨r, hr⟩ := head_of s hp
        have hp' : (0 : Int) < (s.size : Int) := by omega
        generalize hch : s[0]'hp = ch at hr
        have HSL := Lib.hid hr
        have hrl : r.length + 1 = s.size := by rw [← len_eq, hr]; rfl
        have HE1 : Hid ((s.extract 1 s.size).data.toList = r) := Lib.hid (by rw [ext_drop s 1 s.size rfl, hr]; rfl)
        have hone : (1 : Int) ≤ (s.size : Int) := by omega
        clear hr hz
        go_wp2_with fail
        refine (Tryz.strings_HasPrefix (s.extract 1 s.size) ⟨#[42]⟩ _).mono ?_
        rintro e w1 ⟨rfl, rfl⟩
        rw [HE1.out, show (⟨#[42]⟩ : ByteArray).data.toList = [42] from rfl, pre_star]
        cases hst : (r.head? == some 42)
        case true =>
          have hr2 : ∃ r2, r = 42 :: r2 := by
            cases r with
            | nil => simp at hst
            | cons x r2 => simp at hst; exact ⟨r2, by rw [hst]⟩
          obtain ⟨r2, rfl⟩ := hr2
          clear hst
          have htwo : (2 : Int) ≤ (s.size : Int) := by simp at hrl; omega
          have HE2 : Hid ((s.extract 2 s.size).data.toList = r2) := Lib.hid (by rw [ext_drop s 2 s.size rfl, HSL.out]; rfl)
          have HM2 : Hid (matchP r2 (L'.dropWhile (· == ch)) = M) := Lib.hid (by rw [← HM'.out, HSL.out]; rfl)
          have hsz2 : (s.extract 2 s.size).size ≤ ko := by rw [← len_eq, HE2.out]; simp at hrl; omega
          go_wp2_with fail
          go_loopg [1] L'.length (fun gk v1 wr => ∃ (L2 : List UInt8) (A2 : Option Addr) (c2 q2 : Nat), L2.length ≤ gk ∧ v1 = .slice A2 L2.length c2 ∧ L2.length ≤ c2 ∧ L2.length ≤ 1000000 ∧ wr = w.drewN q2 ∧ Hid (BytS w A2 L2) ∧ Hid (matchP r2 (L2.dropWhile (· == ch)) = M))
          case atStart => exact ⟨L', A', c', _, Nat.le_refl _, rfl, hc', hn', rfl, HL', HM2⟩
          case round =>
            obtain ⟨L2, A2, c2, q2, hl2, rfl, hc2, hn2, rfl, HL2, HM3⟩ := hrel
            cases L2 with
            | nil =>
              go_wp2_with fail
              go_quiet (fail)
              go_wp2_with fail
              go_roundg ko
              case measure => omega
              case rel => exact ⟨_, [], A2, c2, _, hsz2, rfl, rfl, hc2, hn2, rfl, HL2, Lib.hid (by rw [HE2.out, ← HM3.out]; rfl)⟩
            | cons d L3 =>
              rcases HL2.out with ⟨h0, _⟩ | ⟨b2, o2, rfl, hcell⟩
              · cases h0
              have hd0 : w.cell? ⟨b2, o2, none⟩ = some (.int .u8 d.toNat) := hcell 0 (by simp)
              have HT := Lib.hid (BytS.tail hcell)
              clear hcell
              have hlen : ((0 : Int) < ((d :: L3).length : Int)) := by simp only [List.length_cons]; omega
              have hlen1 : ((1 : Int) ≤ ((d :: L3).length : Int)) := by simp only [List.length_cons]; omega
              by_cases hd : d = ch
              case pos =>
                subst hd
                have hdb : ((d.toNat : Int) == (d.toNat : Int)) = true := by simp
                by_cases hcap : c2 = 1
                case pos =>
                  have hL3 : L3 = [] := List.eq_nil_of_length_eq_zero (by simp at hc2; omega)
                  subst hL3
                  subst hcap
                  go_wp2_with fail
                  go_quiet (fail)
                  go_wp2_with fail
                  cases gk with
                  | zero => simp at hl2
                  | succ gk =>
                    go_roundg gk
                    case measure => omega
                    case rel => exact ⟨[], some ⟨b2, o2, none⟩, 0, _, by simp, by simp, by simp, by simp, rfl, Lib.hid (Or.inl ⟨rfl, trivial⟩), Lib.hid (by rw [← HM3.out, List.dropWhile_cons_of_pos (by simp)])⟩
                case neg =>
                  go_wp2_with fail
                  go_quiet (fail)
                  go_wp2_with fail
                  cases gk with
                  | zero => simp at hl2
                  | succ gk =>
                    go_roundg gk
                    case measure => omega
                    case rel => exact ⟨L3, some ⟨b2, o2 + 1, none⟩, c2 - 1, _, by simpa using hl2, by simp, by simp at hc2; omega, by simp at hn2; omega, rfl, HT, Lib.hid (by rw [← HM3.out, List.dropWhile_cons_of_pos (by simp)])⟩
              case neg =>
                have hdb : ((d.toNat : Int) == (ch.toNat : Int)) = false := by
                  rw [beq_eq_false_iff_ne]; intro h; exact hd (UInt8.toNat.inj (by omega))
                go_wp2_with fail
                go_quiet (fail)
                go_wp2_with fail
                go_roundg ko
                case measure => omega
                case rel => exact ⟨_, d :: L3, some ⟨b2, o2, none⟩, c2, _, hsz2, rfl, rfl, hc2, hn2, rfl, HL2, Lib.hid (by
                  rw [HE2.out, ← HM3.out, List.dropWhile_cons_of_neg (by simpa using hd)])⟩
        case false =>
          have HM2 : Hid (matchD ch r L' = M) := Lib.hid (by rw [← HM'.out, HSL.out, match_one hst])
          clear hst
          have hsz1 : (s.extract 1 s.size).size ≤ ko := by rw [← len_eq, HE1.out]; omega
          cases L' with
          | nil =>
            go_wp2_with fail
            go_quiet (fail)
            go_wp2_with fail
            go_ret
            exact ⟨ret_b HM2.out, ⟨rfl, rfl, rfl, Nat.le_refl _, fun _ _ => rfl⟩⟩
          | cons d L3 =>
            rcases HL'.out with ⟨h0, _⟩ | ⟨b2, o2, rfl, hcell⟩
            · cases h0
            have hd0 : w.cell? ⟨b2, o2, none⟩ = some (.int .u8 d.toNat) := hcell 0 (by simp)
            have HT := Lib.hid (BytS.tail hcell)
            clear hcell
            have hlen : ((0 : Int) < ((d :: L3).length : Int)) := by simp only [List.length_cons]; omega
            have hlen0 : (((d :: L3).length : Int) == 0) = false := by simp only [List.length_cons]; rw [beq_eq_false_iff_ne]; omega
            have hlen1 : ((1 : Int) ≤ ((d :: L3).length : Int)) := by simp only [List.length_cons]; omega
            by_cases hd : d = ch
            case pos =>
              subst hd
              have hdb : ((d.toNat : Int) != (d.toNat : Int)) = false := by simp
              by_cases hcap : c' = 1
              case pos =>
                have hL3 : L3 = [] := List.eq_nil_of_length_eq_zero (by simp at hc'; omega)
                subst hL3
                subst hcap
                go_wp2_with fail
                go_quiet (fail)
                go_wp2_with fail
                go_quiet (fail)
                go_wp2_with fail
                go_roundg ko
                case measure => omega
                case rel => exact ⟨_, [], some ⟨b2, o2, none⟩, 0, _, hsz1, rfl, by simp, by simp, by simp, (by rw [World.drewN_drewN, World.drewN_drewN]), Lib.hid (Or.inl ⟨rfl, trivial⟩), Lib.hid (by rw [HE1.out, ← HM2.out]; simp [matchD])⟩
              case neg =>
                go_wp2_with fail
                go_quiet (fail)
                go_wp2_with fail
                go_quiet (fail)
                go_wp2_with fail
                go_roundg ko
                case measure => omega
                case rel => exact ⟨_, L3, some ⟨b2, o2 + 1, none⟩, c' - 1, _, hsz1, rfl, by simp, by simp at hc'; omega, by simp at hn'; omega, (by rw [World.drewN_drewN, World.drewN_drewN]), HT, Lib.hid (by rw [HE1.out, ← HM2.out]; simp [matchD])⟩
            case neg =>
              have hdb : ((d.toNat : Int) != (ch.toNat : Int)) = true := by
                simp only [bne_iff_ne, ne_eq]; intro h; exact hd (UInt8.toNat.inj (by omega))
              go_wp2_with fail
              go_quiet (fail)
              go_wp2_with fail
              go_ret
              exact ⟨ret_b (by rw [← HM2.out]; simp [hd, matchD]), ⟨rfl, rfl, rfl, Nat.le_refl _, fun _ _ => rfl⟩⟩
end Go.Proofs.YtkkeocnnecegbaaGreatDoor

/- Plain law: the letters' patterns say what fitsK says. By an AI agent. -/
namespace Go.Proofs.YtkkeocnnecegbaaGreatDoor
open Go.RowKit

theorem let_d (k : Nat) : (letB k == 100) = isDk k := by
  rcases small_or k with h | h | h | h | h | h | h | h | h | h | h | h | h | h | h | h | h | h | h | h | h | h | h
  all_goals try (subst h; decide)
  have h1 : letterK k = 63 := by unfold letterK; rw [if_neg (by omega), if_neg (by omega), if_neg (by omega), if_neg (by omega), if_neg (by omega), if_neg (by omega)]
  have h2 : isDk k = false := by unfold isDk; simp; omega
  rw [h2]; unfold letB; rw [h1]; rfl
theorem let_p (k : Nat) : (letB k == 112) = (k == 4) := by
  rcases small_or k with h | h | h | h | h | h | h | h | h | h | h | h | h | h | h | h | h | h | h | h | h | h | h
  all_goals try (subst h; decide)
  have h1 : letterK k = 63 := by unfold letterK; rw [if_neg (by omega), if_neg (by omega), if_neg (by omega), if_neg (by omega), if_neg (by omega), if_neg (by omega)]
  have h2 : (k == 4) = false := by simp; omega
  rw [h2]; unfold letB; rw [h1]; rfl
theorem let_b (k : Nat) : (letB k == 98) = (k == 5) := by
  rcases small_or k with h | h | h | h | h | h | h | h | h | h | h | h | h | h | h | h | h | h | h | h | h | h | h
  all_goals try (subst h; decide)
  have h1 : letterK k = 63 := by unfold letterK; rw [if_neg (by omega), if_neg (by omega), if_neg (by omega), if_neg (by omega), if_neg (by omega), if_neg (by omega)]
  have h2 : (k == 5) = false := by simp; omega
  rw [h2]; unfold letB; rw [h1]; rfl
theorem let_s (k : Nat) : (letB k == 115) = isSk k := by
  rcases small_or k with h | h | h | h | h | h | h | h | h | h | h | h | h | h | h | h | h | h | h | h | h | h | h
  all_goals try (subst h; decide)
  have h1 : letterK k = 63 := by unfold letterK; rw [if_neg (by omega), if_neg (by omega), if_neg (by omega), if_neg (by omega), if_neg (by omega), if_neg (by omega)]
  have h2 : isSk k = false := by unfold isSk; simp; omega
  rw [h2]; unfold letB; rw [h1]; rfl
theorem let_c (k : Nat) : (letB k == 99) = (k == 16) := by
  rcases small_or k with h | h | h | h | h | h | h | h | h | h | h | h | h | h | h | h | h | h | h | h | h | h | h
  all_goals try (subst h; decide)
  have h1 : letterK k = 63 := by unfold letterK; rw [if_neg (by omega), if_neg (by omega), if_neg (by omega), if_neg (by omega), if_neg (by omega), if_neg (by omega)]
  have h2 : (k == 16) = false := by simp; omega
  rw [h2]; unfold letB; rw [h1]; rfl
theorem let_e (k : Nat) : (letB k == 101) = isEk k := by
  rcases small_or k with h | h | h | h | h | h | h | h | h | h | h | h | h | h | h | h | h | h | h | h | h | h | h
  all_goals try (subst h; decide)
  have h1 : letterK k = 63 := by unfold letterK; rw [if_neg (by omega), if_neg (by omega), if_neg (by omega), if_neg (by omega), if_neg (by omega), if_neg (by omega)]
  have h2 : isEk k = false := by unfold isEk; simp; omega
  rw [h2]; unfold letB; rw [h1]; rfl

theorem star_all {c : UInt8} {f : Nat → Bool} (hf : ∀ k, (letB k == c) = f k) (l : List Nat) : ((l.map letB).dropWhile (· == c)).isEmpty = l.all f := by
  induction l with
  | nil => rfl
  | cons a r ih =>
    rw [List.map_cons, List.all_cons]
    cases h : f a with
    | true => rw [List.dropWhile_cons_of_pos (by rw [hf]; exact h), Bool.true_and]; exact ih
    | false => rw [List.dropWhile_cons_of_neg (by rw [hf, h]; simp)]; rfl
/-- Many p, then one b, and nothing behind. -/
theorem star_last (l : List Nat) : matchP [98] ((l.map letB).dropWhile (· == 112)) = ((l.getLast? == some 5) && l.dropLast.all (· == 4)) := by
  induction l with
  | nil => rfl
  | cons a r ih =>
    rw [List.map_cons]
    cases h : (a == 4) with
    | true =>
      rw [List.dropWhile_cons_of_pos (by rw [let_p]; exact h), ih]
      cases r with
      | nil =>
        have : a = 4 := by simpa using h
        subst this; rfl
      | cons b r' => simp only [List.getLast?_cons_cons, List.dropLast_cons_cons, List.all_cons, h, Bool.true_and]
    | false =>
      rw [List.dropWhile_cons_of_neg (by rw [let_p, h]; simp)]
      have e : matchP [98] (letB a :: r.map letB) = ((letB a == 98) && (r.map letB).isEmpty) := by
        simp [matchP]
      rw [e, let_b]
      cases r with
      | nil => simp
      | cons b r' => simp only [List.map_cons, List.isEmpty_cons, Bool.and_false, List.dropLast_cons_cons, List.all_cons, h, Bool.false_and]
theorem mt_hE (l : List Nat) : matchP [101] (l.map letB) = (match l with | [a] => isEk a | _ => false) := by
  match l with
  | [] => simp [matchP]
  | [a] => simp [matchP, let_e]
  | a :: b :: r => simp [matchP]
theorem mt_hEE (l : List Nat) : matchP [101, 101] (l.map letB) = (match l with | [a, b] => isEk a && isEk b | _ => false) := by
  match l with
  | [] => simp [matchP]
  | [a] => simp [matchP]
  | [a, b] => simp [matchP, let_e]
  | a :: b :: c :: r => simp [matchP]
theorem mt_hEB (l : List Nat) : matchP [101, 98] (l.map letB) = (match l with | [a, b] => isEk a && b == 5 | _ => false) := by
  match l with
  | [] => simp [matchP]
  | [a] => simp [matchP]
  | [a, b] => simp [matchP, let_e, let_b]
  | a :: b :: c :: r => simp [matchP]
theorem match_fits (k : Nat) (l : List Nat) : matchP (patK k l.length) (l.map letB) = fitsK k l := by
  have e1 : ∀ (c : UInt8) (x : List UInt8), matchP [c, 42] x = (x.dropWhile (· == c)).isEmpty := fun c x => by simp [matchP]
  unfold fitsK patK
  by_cases h9 : k = 9
  · subst h9
    match l with
    | [] => rfl
    | [a] => simp [matchP, kidsK]
    | [a, b] => simp [matchP, let_e, let_b]
    | [a, b, c] => simp [matchP, kidsK, let_e, let_b, Bool.and_assoc]
    | a :: b :: c :: d :: r => simp [matchP, kidsK]
  · rw [if_neg (fun h => h9 h.1)]
    unfold kidsK
    by_cases h1 : k = 1
    · rw [if_pos h1, if_pos h1, e1]; exact star_all let_d l
    · rw [if_neg h1, if_neg h1]
      by_cases h3 : k = 3
      · rw [if_pos h3, if_pos h3]
        show matchP [98] _ = _
        exact star_last l
      · rw [if_neg h3, if_neg h3]
        by_cases h5 : k = 5
        · rw [if_pos h5, if_pos h5, e1]; exact star_all let_s l
        · rw [if_neg h5, if_neg h5]
          by_cases h6 : k = 6 ∨ k = 7 ∨ k = 11 ∨ k = 12 ∨ k = 13 ∨ k = 19 ∨ k = 20
          · rw [if_pos h6, if_pos h6]; exact mt_hE l
          · rw [if_neg h6, if_neg h6]
            by_cases h8 : k = 8 ∨ k = 21
            · rw [if_pos h8, if_pos h8]; exact mt_hEE l
            · rw [if_neg h8, if_neg h8, if_neg h9, if_neg h9]
              by_cases h10 : k = 10
              · rw [if_pos h10, if_pos h10]; exact mt_hEB l
              · rw [if_neg h10, if_neg h10]
                by_cases h15 : k = 15
                · rw [if_pos h15, if_pos h15]
                  cases l with
                  | nil => simp [matchP]
                  | cons a r =>
                    have : matchP [99, 101, 42] (letB a :: r.map letB) = ((letB a == 99) && matchP [101, 42] (r.map letB)) := by simp [matchP]
                    rw [List.map_cons, this, let_c, e1, star_all let_e]
                · rw [if_neg h15, if_neg h15]
                  cases l <;> simp [matchP]
end Go.Proofs.YtkkeocnnecegbaaGreatDoor

/- A map of kinds to numbers; shaped. By an AI agent. -/
namespace Go.Proofs.YtkkeocnnecegbaaGreatDoor
open Go.RowKit

def entU : Nat → List (Nat × Int) → List MapEntry
  | _, [] => []
  | i, (k, v) :: r => { key := .int .u8 (k : Nat), val := .int .i64 v, born := i } :: entU (i + 1) r
theorem entU_snoc (k : Nat) (v : Int) : ∀ (L : List (Nat × Int)) (i : Nat), entU i (L ++ [(k, v)]) = entU i L ++ [{ key := .int .u8 (k : Nat), val := .int .i64 v, born := i + L.length }]
  | [], i => by simp [entU]
  | (a, b) :: r, i => by
    show _ :: entU (i + 1) (r ++ [(k, v)]) = _
    rw [entU_snoc k v r (i + 1)]
    simp only [entU, List.length_cons, List.cons_append]
    rw [show i + 1 + r.length = i + (r.length + 1) by omega]
theorem find_entU (k : Nat) : ∀ (L : List (Nat × Int)) (i j : Nat), ∃ a, Instr.findNow (.int .u8) (.int .u8 (k : Nat)) (entU i L) j = some a ∧ a.map (·.2) = (L.lookup k).map (fun v => Value.int .i64 v)
  | [], i, j => ⟨none, rfl, rfl⟩
  | (a, b) :: r, i, j => by
    simp only [entU, Instr.findNow, Instr.sameNow]
    by_cases h : k = a
    · subst h
      exact ⟨some (j, .int .i64 b), by simp, by simp [List.lookup]⟩
    · have h' : (k == a) = false := by simpa using h
      have h'' : ((k : Int) == (a : Int)) = false := by simp; omega
      obtain ⟨x, h1, h2⟩ := find_entU k r (i + 1) (j + 1)
      simp only [if_true, h'']
      exact ⟨x, h1, by simp only [List.lookup, h']; exact h2⟩
theorem updU (w : World) (L : List (Nat × Int)) (k : Nat) (v : Int) (n : Nat) (hn : L.length = n) (hk : L.lookup k = none) :
    (Instr.mapUpdate 153 (.map (some w.heap.size)) (.int .u8 (k : Nat)) (.int .i64 v)).run Tryz.prog (w.alloc (.map (entU 0 L).toArray n)) = .ok () (w.alloc (.map (entU 0 (L ++ [(k, v)])).toArray (n + 1))) := by
  have hb : (w.alloc (.map (entU 0 L).toArray n)).heap[w.heap.size]? = some (.map (entU 0 L).toArray n) := heap_alloc_new w _
  obtain ⟨a, h1, h2⟩ := find_entU k L 0 0
  rw [hk] at h2
  have ha : a = none := by cases a <;> simp_all
  subst ha
  have hc : (Instr.checkKey false 10000 5 (.int .u8 (k : Nat))).run Tryz.prog (w.alloc (.map (entU 0 L).toArray n)) = .ok () _ := MapKept.run_checkKey (k := .int .u8 (k : Nat)) Tryz.underlying5 (by simp [MapKept.IsKey]) false 9999
  simp [Instr.mapUpdate, run_underlying Tryz.underlying153, MapKept.run_getObj_map hb, hc, MapKept.run_findKey Tryz.underlying5 h1, MapKept.run_setObj_map _ hb, Result.andThen]
  rw [show entU 0 L ++ [{ key := .int .u8 (k : Nat), val := .int .i64 v, born := n }] = entU 0 (L ++ [(k, v)]) by rw [entU_snoc, Nat.zero_add, hn]]
  exact heap_set_new w _ _
theorem zero2 (W : World) : (zeroValue 2).run Tryz.prog W = .ok (.int .i64 0) W := by kernel_rfl
theorem lookU (W : World) (b : Nat) (L : List (Nat × Int)) (k : Nat) (n : Nat) (hb : W.heap[b]? = some (.map (entU 0 L).toArray n)) (_hL : L ≠ []) :
    (Instr.lookup 153 (.map (some b)) (.int .u8 (k : Nat)) false).run Tryz.prog W = .ok (.int .i64 ((L.lookup k).getD 0)) W := by
  obtain ⟨a, h1, h2⟩ := find_entU k L 0 0
  have hc : ∀ em, (Instr.checkKey em 10000 5 (.int .u8 (k : Nat))).run Tryz.prog W = .ok () W := fun em => MapKept.run_checkKey (k := .int .u8 (k : Nat)) Tryz.underlying5 (by simp [MapKept.IsKey]) em 9999
  cases a with
  | none =>
    have hn : L.lookup k = none := by cases h : L.lookup k <;> simp_all
    rw [hn]
    simp [Instr.lookup, run_underlying Tryz.underlying153, MapKept.run_getObj_map hb, hc, MapKept.run_findKey Tryz.underlying5 h1, Result.andThen]
  | some q =>
    obtain ⟨i, v⟩ := q
    have hs : ∃ u, L.lookup k = some u ∧ v = .int .i64 u := by
      cases h : L.lookup k with
      | none => rw [h] at h2; simp at h2
      | some u => rw [h] at h2; simp at h2; exact ⟨u, rfl, h2⟩
    obtain ⟨u, hu, rfl⟩ := hs
    rw [hu]
    simp [Instr.lookup, run_underlying Tryz.underlying153, MapKept.run_getObj_map hb, hc, MapKept.run_findKey Tryz.underlying5 h1, Result.andThen]
def mostTab : List (Nat × Int) := [(2, 2147483647), (17, 2147483647), (20, 2), (21, 14)]
theorem most_tab (k : Nat) : (mostTab.lookup k).getD 0 = mostK k := by
  rcases small_or k with h | h | h | h | h | h | h | h | h | h | h | h | h | h | h | h | h | h | h | h | h | h | h
  all_goals try (subst h; decide)
  have e : ∀ j, j < 22 → (k == j) = false := fun j hj => by simp; omega
  unfold mostTab mostK
  simp only [List.lookup, e 2 (by omega), e 17 (by omega), e 20 (by omega), e 21 (by omega)]
  rw [if_neg (by omega), if_neg (by omega), if_neg (by omega)]; rfl
theorem updM1 (w : World) : (Instr.mapUpdate 153 (.map (some w.heap.size)) (.int .u8 2) (.int .i64 2147483647)).run Tryz.prog (w.alloc (.map #[] 0)) = .ok () (w.alloc (.map (entU 0 (mostTab.take 1)).toArray 1)) := updU w [] 2 2147483647 0 rfl rfl
theorem updM2 (w : World) : (Instr.mapUpdate 153 (.map (some w.heap.size)) (.int .u8 17) (.int .i64 2147483647)).run Tryz.prog (w.alloc (.map (entU 0 (mostTab.take 1)).toArray 1)) = .ok () (w.alloc (.map (entU 0 (mostTab.take 2)).toArray 2)) := updU w (mostTab.take 1) 17 2147483647 1 rfl rfl
theorem updM3 (w : World) : (Instr.mapUpdate 153 (.map (some w.heap.size)) (.int .u8 20) (.int .i64 2)).run Tryz.prog (w.alloc (.map (entU 0 (mostTab.take 2)).toArray 2)) = .ok () (w.alloc (.map (entU 0 (mostTab.take 3)).toArray 3)) := updU w (mostTab.take 2) 20 2 2 rfl rfl
theorem updM4 (w : World) : (Instr.mapUpdate 153 (.map (some w.heap.size)) (.int .u8 21) (.int .i64 14)).run Tryz.prog (w.alloc (.map (entU 0 (mostTab.take 3)).toArray 3)) = .ok () (w.alloc (.map (entU 0 mostTab).toArray 4)) := updU w (mostTab.take 3) 21 14 3 rfl rfl

def namedQ : Nat → Int := fun i => (([2, 3, 4, 6, 7, 8, 14, 15, 16, 18, 19] : List Int).getD i 0)
theorem has_named (k : Nat) : has 11 namedQ k = named k := by
  rcases small_or k with h | h | h | h | h | h | h | h | h | h | h | h | h | h | h | h | h | h | h | h | h | h | h
  all_goals try (subst h; decide)
  have h2 : named k = false := by unfold named; simp; omega
  rw [h2]
  unfold has
  rw [decide_eq_false]
  rintro ⟨i, hi, hh⟩
  have : ∀ i, i < 11 → namedQ i ≤ 19 := by decide
  have := this i hi
  omega
theorem info5 : (Tryz.prog.info? 5).map (fun i => (i.zero, i.size, i.bytes)) = some (some (.int .u8 0), 1, 1) := by kernel_rfl
def letV (l : List Nat) : List Value := l.map (fun k => Value.int .u8 (letterK k))
theorem letV_snoc (l : List Nat) (k : Nat) : letV (l ++ [k]) = letV l ++ [.int .u8 (letterK k)] := by simp [letV]
theorem letV_byts {w : World} {base cap : Nat} {A : Option Addr} {ks : List Nat} (h : w.ownsRow base 5 1 (.slice A ks.length cap) ks.length (letV ks)) : BytS w A (ks.map letB) ∧ ks.length ≤ cap := by
  by_cases h0 : ks = []
  · subst h0; exact ⟨Or.inl ⟨rfl, trivial⟩, Nat.zero_le _⟩
  · have hpos : 0 < ks.length := List.length_pos_iff.2 h0
    obtain ⟨g, cap', hv, _, hlt⟩ := h.form hpos
    injection hv with hA hn hc
    subst hA hc
    refine ⟨Or.inr ⟨g, 0, rfl, fun j hj => ?_⟩, own_cap h⟩
    have hj' : j < ks.length := by simpa using hj
    have := h.cellAt j (by omega)
    rw [Nat.zero_add, this, letV, List.getElem?_map, List.getElem?_eq_getElem hj', List.getElem_map, letB_nat]; rfl
theorem nameOk_is (l : List UInt8) : isNameS l = nameOk l := by cases l <;> rfl

end Go.Proofs.YtkkeocnnecegbaaGreatDoor
