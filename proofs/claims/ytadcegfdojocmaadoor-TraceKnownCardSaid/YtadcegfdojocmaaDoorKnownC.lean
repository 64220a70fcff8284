/- What TraceKnown's loops call, at rows that are read well. By an AI agent. -/
import Derived.Test.YtadcegfdojocmaaDoorKnownA
import Derived.Test.YtadcegfdojocmaaDoorParsesWalk
import Derived.Test.YtadcegfdojocmaaDoorCutB
namespace Go.Proofs.YtadcegfdojocmaaDoor
open Go.RowKit

/-- A small slice of events, read well. -/
def Good (w : World) (A : Option Addr) (n c : Nat) (k m : Nat → Int) : Prop := n ≤ c ∧ c ≤ 3 ∧ (A = none → c = 0) ∧ EvS w A n k m ∧ ∀ j, j < n → (0 ≤ k j ∧ k j ≤ 255) ∧ i64ok (m j)
theorem Good.below {w w' : World} {A : Option Addr} {n c : Nat} {k m : Nat → Int} (h : Good w A n c k m) (hb : Below w.heap.size w w') : Good w' A n c k m := ⟨h.1, h.2.1, h.2.2.1, h.2.2.2.1.below hb, h.2.2.2.2⟩
theorem texts_t (A : Option Addr) (n c : Nat) (k m : Nat → Int) (w : World) (henv : EnvP w) (h : Good w A n c k m) : Calls Tryd.prog 5 #[.slice A n c] w fun e w' => e = .returned (.bool true) ∧ Below w.heap.size w w' := by
  obtain ⟨h1, h2, h3, h4, h5⟩ := h
  cases ho : okText n k with
  | true => exact texts_ok A n c k m w henv (by omega) h4 (fun i hi => (h5 i hi).2) ho
  | false => exact texts_none A n c k m w henv (by omega) h4 (fun i hi => (h5 i hi).2) ho
theorem tells_t (A B : Option Addr) (n c n' c' : Nat) (k m k' m' : Nat → Int) (en ov : Bool) (w : World) (henv : Env w) (h : Good w A n c k m) (h' : Good w B n' c' k' m') :
    Calls Tryd.prog 4 #[.slice A n c, .slice B n' c', .bool en, .bool ov] w fun e w' => e = .returned (.bool true) ∧ Below w.heap.size w w' :=
  tells_small A B n c n' c' en ov k m k' m' w henv (by have := h.1; have := h.2.1; omega) (by have := h'.1; have := h'.2.1; omega) h.1 h'.1 h.2.2.1 h'.2.2.1 (fun i hi => (h.2.2.2.2 i hi).1.1) h.2.2.2.1 h'.2.2.2.1
theorem cut_t (A B : Option Addr) (n c n' c' i j : Nat) (k m k' m' : Nat → Int) (w : World) (henv : Env w) (h : Good w A n c k m) (h' : Good w B n' c' k' m') (hi : i ≤ 255) (hj : j ≤ 255) :
    Calls Tryd.prog 3 #[.slice A n c, .slice B n' c', .int .u8 i, .int .u8 j] w fun e w' => e = .returned (.bool true) ∧ Below w.heap.size w w' :=
  cut_small A B n c n' c' i j (min i n) (min j n') k m k' m' w henv (by have := h.1; have := h.2.1; omega) (by have := h'.1; have := h'.2.1; omega) h.1 h'.1 (by omega) (by omega) rfl rfl h.2.2.2.1 h'.2.2.2.1
theorem cut_i (A B : Option Addr) (n c n' c' : Nat) (i j : Int) (k m k' m' : Nat → Int) (w : World) (henv : Env w) (h : Good w A n c k m) (h' : Good w B n' c' k' m') (hi : 0 ≤ i ∧ i ≤ 255) (hj : 0 ≤ j ∧ j ≤ 255) :
    Calls Tryd.prog 3 #[.slice A n c, .slice B n' c', .int .u8 i, .int .u8 j] w fun e w' => e = .returned (.bool true) ∧ Below w.heap.size w w' := by
  obtain ⟨i, rfl⟩ := Int.eq_ofNat_of_zero_le hi.1
  obtain ⟨j, rfl⟩ := Int.eq_ofNat_of_zero_le hj.1
  exact cut_t A B n c n' c' i j k m k' m' w henv h h' (by omega) (by omega)
theorem parses_t (s : ByteArray) (w : World) (henv : EnvP w) (hs : s.size ≤ 2000) : Calls Tryd.prog 6 #[.string s] w fun e w' => e = .returned (.bool true) ∧ Below w.heap.size w w' := by
  cases hp : pars s.data.toList with
  | none => exact parses_none s w henv hs hp
  | some X => exact parses_some s X w henv hs hp

def kL (L : List (Int × Int)) (j : Nat) : Int := (L[j]?.getD (0, 0)).1
def mL (L : List (Int × Int)) (j : Nat) : Int := (L[j]?.getD (0, 0)).2
def goodL (L : List (Int × Int)) : Bool := decide (L.length ≤ 3) && L.all fun x => decide (0 ≤ x.1 ∧ x.1 ≤ 255 ∧ -9223372036854775808 ≤ x.2 ∧ x.2 ≤ 9223372036854775807)
theorem rowsK_good : rowsK.all goodL = true := by decide
theorem flatE_at (L : List (Int × Int)) (i : Nat) (hi : i < L.length) : (flatE L)[i * 2]? = some (.int .u8 (kL L i)) ∧ (flatE L)[i * 2 + 1]? = some (.int .i64 (mL L i)) := by
  induction L generalizing i with
  | nil => simp at hi
  | cons x r ih =>
    cases i with
    | zero => exact ⟨rfl, rfl⟩
    | succ i =>
      have h := ih i (by simpa using hi)
      have e : flatE (x :: r) = [.int .u8 x.1, .int .i64 x.2] ++ flatE r := rfl
      rw [e, List.getElem?_append_right (by simp; omega), List.getElem?_append_right (by simp; omega)]
      have e1 : (i + 1) * 2 - [Value.int .u8 x.1, .int .i64 x.2].length = i * 2 := by simp; omega
      have e2 : (i + 1) * 2 + 1 - [Value.int .u8 x.1, .int .i64 x.2].length = i * 2 + 1 := by simp; omega
      rw [e1, e2]
      simpa [kL, mL] using h
theorem RowB.good {L : List (Int × Int)} {v : Value} {w : World} (h : RowB L v w) (hg : goodL L = true) : ∃ A n c k m, v = .slice A n c ∧ Good w A n c k m := by
  obtain ⟨b, rfl, hc⟩ := h
  unfold goodL at hg
  rw [Bool.and_eq_true, decide_eq_true_eq, List.all_eq_true] at hg
  refine ⟨some ⟨b, 0, none⟩, L.length, L.length, kL L, mL L, rfl, Nat.le_refl _, hg.1, (fun e => (by cases e)), Or.inr ⟨b, 0, rfl, fun i hi => ?_, fun i hi => ?_⟩, fun j hj => ?_⟩
  · have := (flatE_at L i hi).1
    simp only [World.cell?, hc, Nat.zero_add]
    simpa using this
  · have := (flatE_at L i hi).2
    simp only [World.cell?, hc, Nat.zero_add]
    simpa using this
  · have h1 := hg.2 L[j] (List.getElem_mem hj)
    rw [decide_eq_true_eq] at h1
    simp only [kL, mL, List.getElem?_eq_getElem hj, Option.getD_some]
    exact ⟨⟨h1.1, h1.2.1⟩, h1.2.2⟩
/-- The rows, read one by one. -/
def RowsOk (b : Nat) (w : World) : Prop := ∀ i, i < 14 → ∃ A n c k m, w.cell? ⟨b, i, none⟩ = some (.slice A n c) ∧ Good w A n c k m
theorem AllB.rows {v : Value} {w : World} (h : AllB v w) : ∃ b, v = .slice (some ⟨b, 0, none⟩) 14 14 ∧ RowsOk b w := by
  obtain ⟨b, vs, rfl, hc, hl, hr⟩ := h
  refine ⟨b, rfl, fun i hi => ?_⟩
  cases i with
  | zero => exact ⟨none, 0, 0, fun _ => 0, fun _ => 0, by simp [World.cell?, hc], Nat.le_refl _, by omega, fun _ => rfl, Or.inl rfl, fun j hj => absurd hj (Nat.not_lt_zero _)⟩
  | succ i =>
    have h1 : i < vs.length := by omega
    have h2 : i < rowsK.length := by have : rowsK.length = 13 := rfl; omega
    obtain ⟨A, n, c, k, m, e, hg⟩ := (hr i rowsK[i] vs[i] (List.getElem?_eq_getElem h2) (List.getElem?_eq_getElem h1)).good (List.all_eq_true.1 rowsK_good _ (List.getElem_mem h2))
    refine ⟨A, n, c, k, m, ?_, hg⟩
    simp [World.cell?, hc, h1, e]
theorem RowsOk.below {b : Nat} {w w' : World} (h : RowsOk b w) (hb : Below w.heap.size w w') : RowsOk b w' := fun i hi => by
  obtain ⟨A, n, c, k, m, e, hg⟩ := h i hi
  exact ⟨A, n, c, k, m, cell_later hb e, hg.below hb⟩
end Go.Proofs.YtadcegfdojocmaaDoor
