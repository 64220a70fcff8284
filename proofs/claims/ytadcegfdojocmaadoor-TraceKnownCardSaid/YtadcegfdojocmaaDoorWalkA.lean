/- The walks over the small functions of the package trace and of its reference: each returns what its plain law says, and nothing that was there before has turned. By an AI agent. -/
import Derived.Test.YtadcegfdojocmaaDoorRows
import Derived.WalkKit
import Derived.WalkSpells
import Derived.WalkLawsBesides
import Derived.BigQuiet
import Derived.Deep.QuietTactic
import Derived.Laws.StructEq
import Derived.Lib.Hide
namespace Go.Proofs.YtadcegfdojocmaaDoor
open Go.RowKit

theorem neqEv (k m k' m' : Int) (w : World) : (binOp .neq 44 (.agg #[.int .u8 k, .int .i64 m]) (.agg #[.int .u8 k', .int .i64 m'])).run Tryd.prog w = .ok (.bool (!(k == k' && m == m'))) w := by
  by_cases h1 : k = k' <;> by_cases h2 : m = m' <;> simp [go_sem, h1, h2]

theorem ret_bool {a b : Bool} (h : a = b) : Ending.returned (.bool a) = Ending.returned (.bool b) := by rw [h]
theorem ret_int {k : IntKind} {a b : Int} (h : a = b) : Ending.returned (.int k a) = .returned (.int k b) := by rw [h]
theorem below_drewN (w : World) (q : Nat) : Below w.heap.size w (w.drewN q) := ⟨rfl, rfl, rfl, Nat.le_refl _, fun _ _ => rfl⟩

/-- The first n events of two rows are the same. -/
def evEq (n : Nat) (k1 m1 k2 m2 : Nat → Int) : Bool := decide (∀ i, i < n → k1 i = k2 i ∧ m1 i = m2 i)
/-- The row k1, m1 of n1 events begins with the row k2, m2 of n2 events. -/
def beg (n1 : Nat) (k1 m1 : Nat → Int) (n2 : Nat) (k2 m2 : Nat → Int) : Bool := decide (n2 ≤ n1) && evEq n2 k1 m1 k2 m2
/-- The last event is a Stop of StopStack. -/
def isFull (n : Nat) (k m : Nat → Int) : Bool := decide (0 < n ∧ k (n - 1) = 4 ∧ m (n - 1) = 3)
/-- Does an image's trace agree with its source's? -/
def agr (n : Nat) (k m : Nat → Int) (en : Bool) (n' : Nat) (k' m' : Nat → Int) (ov : Bool) : Bool :=
  if isFull n k m && en then beg n' k' m' (n - 1) k m || (!ov && beg (n - 1) k m n' k' m')
  else (beg n k m n' k' m' || beg n' k' m' n k m) && (beg n k m n' k' m' || !en) && (beg n' k' m' n k m || !ov)
/-- Does a trace follow another one? -/
def fol (n : Nat) (k m : Nat → Int) (n' : Nat) (k' m' : Nat → Int) : Bool := beg n' k' m' n k m || (isFull n k m && beg n' k' m' (n - 1) k m)

/-- A slice's address reads as n events. -/
def EvS (w : World) (a : Option Addr) (n : Nat) (k m : Nat → Int) : Prop :=
  n = 0 ∨ ∃ b o, a = some ⟨b, o, none⟩ ∧ (∀ i, i < n → w.cell? ⟨b, o + i * 2, none⟩ = some (.int .u8 (k i))) ∧ (∀ i, i < n → w.cell? ⟨b, o + i * 2 + 1, none⟩ = some (.int .i64 (m i)))

theorem cell_lt {w : World} {b o : Nat} {v : Value} (h : w.cell? ⟨b, o, none⟩ = some v) : b < w.heap.size := by
  unfold World.cell? at h
  rcases Nat.lt_or_ge b w.heap.size with h' | h'
  · exact h'
  · simp [Array.getElem?_eq_none h'] at h

theorem EvS.below {w w' : World} {a : Option Addr} {n : Nat} {k m : Nat → Int} (h : EvS w a n k m) (hb : Below w.heap.size w w') : EvS w' a n k m := by
  rcases h with h | ⟨b, o, e, h1, h2⟩
  · exact Or.inl h
  · exact Or.inr ⟨b, o, e, fun i hi => (hb.cell (p := ⟨b, _, none⟩) (cell_lt (h1 i hi))).trans (h1 i hi), fun i hi => (hb.cell (p := ⟨b, _, none⟩) (cell_lt (h2 i hi))).trans (h2 i hi)⟩

theorem EvS.take {w : World} {a : Option Addr} {n : Nat} {k m : Nat → Int} (h : EvS w a n k m) (j : Nat) (hj : j ≤ n) : EvS w a j k m := by
  rcases h with h | ⟨b, o, e, h1, h2⟩
  · exact Or.inl (by omega)
  · exact Or.inr ⟨b, o, e, fun i hi => h1 i (by omega), fun i hi => h2 i (by omega)⟩

theorem below_next {w w1 w2 : World} (h : Below w.heap.size w w1) (h' : Below w1.heap.size w1 w2) : Below w.heap.size w w2 := h.trans (h'.mono h.size)

set_option maxHeartbeats 400000 in
theorem equal_go (b1 o1 b2 o2 n c1 c2 : Nat) (k1 m1 k2 m2 : Nat → Int) (w : World) (hn : n ≤ 1000000)
    (hk1 : ∀ i, i < n → w.cell? ⟨b1, o1 + i * 2, none⟩ = some (.int .u8 (k1 i))) (hm1 : ∀ i, i < n → w.cell? ⟨b1, o1 + i * 2 + 1, none⟩ = some (.int .i64 (m1 i)))
    (hk2 : ∀ i, i < n → w.cell? ⟨b2, o2 + i * 2, none⟩ = some (.int .u8 (k2 i))) (hm2 : ∀ i, i < n → w.cell? ⟨b2, o2 + i * 2 + 1, none⟩ = some (.int .i64 (m2 i))) :
    Calls Tryd.prog 29 #[.slice (some ⟨b1, o1, none⟩) n c1, .slice (some ⟨b2, o2, none⟩) n c2] w fun e w' => e = .returned (.bool (evEq n k1 m1 k2 m2)) ∧ Below w.heap.size w w' := by
  go_enter Tryd.func29, Tryd.ntmps29
  go_wp2
  go_loopw [13] (fun i wr => ∃ k q : Nat, k ≤ n ∧ i = .int .i64 k ∧ wr = w.drewN q ∧ ∀ j, j < k → k1 j = k2 j ∧ m1 j = m2 j) (fun i _ => n - (intOf i).toNat)
  case atStart => exact ⟨0, 0, Nat.zero_le _, rfl, rfl, fun j hj => absurd hj (Nat.not_lt_zero _)⟩
  case round =>
    obtain ⟨k, q, hk, rfl, rfl, hall⟩ := hrel
    have H := Lib.hid hall; clear hall
    by_cases hlt : k < n
    · have e1 := hk1 k hlt
      have e2 := hm1 k hlt
      have e3 := hk2 k hlt
      have e4 := hm2 k hlt
      clear hk1 hm1 hk2 hm2
      by_cases hx : k1 k = k2 k ∧ m1 k = m2 k
      · have hne : ∀ w, (binOp .neq 44 (.agg #[.int .u8 (k1 k), .int .i64 (m1 k)]) (.agg #[.int .u8 (k2 k), .int .i64 (m2 k)])).run Tryd.prog w = .ok (.bool false) w := fun w => by rw [neqEv]; simp [hx.1, hx.2]
        have HX := Lib.hid hx; clear hx
        go_wp2
        go_quiet (fail)
        go_wp2
        go_roundw
        case rel => exact ⟨k + 1, q + nq, by omega, by go_num, rfl, fun j hj => by
          by_cases hjk : j = k
          · rw [hjk]; exact HX.out
          · exact H.out j (by omega)⟩
        case measure => simp [intOf]; omega
      · have hne : ∀ w, (binOp .neq 44 (.agg #[.int .u8 (k1 k), .int .i64 (m1 k)]) (.agg #[.int .u8 (k2 k), .int .i64 (m2 k)])).run Tryd.prog w = .ok (.bool true) w := fun w => by
          rw [neqEv]; congr 2; rw [Bool.not_eq_true', Bool.and_eq_false_iff]; simp only [beq_eq_false_iff_ne]
          exact (Decidable.not_and_iff_or_not.1 hx)
        have HX := Lib.hid hx; clear hx
        go_wp2
        go_quiet (fail)
        go_wp2
        go_ret
        exact ⟨ret_bool (Eq.symm (decide_eq_false (fun h => HX.out (h k hlt)))), by rw [World.drewN_drewN]; exact below_drewN _ _⟩
    · go_wp2
      go_ret
      exact ⟨ret_bool (Eq.symm (decide_eq_true (fun i hi => H.out i (by omega)))), below_drewN _ _⟩

set_option maxHeartbeats 400000 in
theorem equal_zero (a1 a2 : Option Addr) (c1 c2 : Nat) (k1 m1 k2 m2 : Nat → Int) (w : World) :
    Calls Tryd.prog 29 #[.slice a1 0 c1, .slice a2 0 c2] w fun e w' => e = .returned (.bool (evEq 0 k1 m1 k2 m2)) ∧ Below w.heap.size w w' := by
  go_enter Tryd.func29, Tryd.ntmps29
  go_wp2
  refine wp_loop_rounds 1 ?_
  rw [rounds_succ]
  go_wp2
  go_ret
  exact ⟨ret_bool (Eq.symm (decide_eq_true (fun i hi => absurd hi (Nat.not_lt_zero _)))), Below.refl _ _⟩

theorem equal_any (a1 a2 : Option Addr) (n c1 c2 : Nat) (k1 m1 k2 m2 : Nat → Int) (w : World) (hn : n ≤ 1000000) (h1 : EvS w a1 n k1 m1) (h2 : EvS w a2 n k2 m2) :
    Calls Tryd.prog 29 #[.slice a1 n c1, .slice a2 n c2] w fun e w' => e = .returned (.bool (evEq n k1 m1 k2 m2)) ∧ Below w.heap.size w w' := by
  rcases h1 with rfl | ⟨b1, o1, rfl, hk1, hm1⟩
  · exact equal_zero a1 a2 c1 c2 k1 m1 k2 m2 w
  · rcases h2 with rfl | ⟨b2, o2, rfl, hk2, hm2⟩
    · exact equal_zero _ a2 c1 c2 k1 m1 k2 m2 w
    · exact equal_go b1 o1 b2 o2 n c1 c2 k1 m1 k2 m2 w hn hk1 hm1 hk2 hm2

set_option maxHeartbeats 400000 in
theorem begins_any (a1 a2 : Option Addr) (n1 n2 c1 c2 : Nat) (k1 m1 k2 m2 : Nat → Int) (w : World) (hn1 : n1 ≤ 1000000) (hn2 : n2 ≤ 1000000) (hc1 : n1 ≤ c1)
    (h1 : EvS w a1 n1 k1 m1) (h2 : EvS w a2 n2 k2 m2) :
    Calls Tryd.prog 9 #[.slice a1 n1 c1, .slice a2 n2 c2] w fun e w' => e = .returned (.bool (beg n1 k1 m1 n2 k2 m2)) ∧ Below w.heap.size w w' := by
  by_cases hle : n2 ≤ n1
  · have h1' := h1.take n2 hle
    have hb : beg n1 k1 m1 n2 k2 m2 = evEq n2 k1 m1 k2 m2 := by simp [beg, hle]
    have HB := Lib.hid hb; clear hb
    have HE1 := Lib.hid h1'; have HE2 := Lib.hid h2
    clear h1' h1 h2
    go_enter Tryd.func9, Tryd.ntmps9
    go_wp2_with (go_at_call 29; refine (equal_any a1 a2 n2 _ _ k1 m1 k2 m2 _ hn2 HE1.out HE2.out).mono ?_; rintro e w' ⟨rfl, hb⟩)
    go_ret
    exact ⟨ret_bool HB.out.symm, hb⟩
  · have hb : beg n1 k1 m1 n2 k2 m2 = false := by simp [beg, hle]
    rw [hb]
    clear h1 h2
    go_enter Tryd.func9, Tryd.ntmps9
    go_wp2_with fail
    go_ret
    exact ⟨rfl, Below.refl _ _⟩

set_option maxHeartbeats 400000 in
theorem last_zero (a : Option Addr) (c : Nat) (w : World) :
    Calls Tryd.prog 32 #[.slice a 0 c] w fun e w' => e = .returned (.tuple #[.agg #[.int .u8 0, .int .i64 0], .bool false]) ∧ Below w.heap.size w w' := by
  go_enter Tryd.func32, Tryd.ntmps32
  go_wp2
  exact bodyPost_ret (v := .tuple #[.agg #[.int .u8 0, .int .i64 0], .bool false]) (by simp [results, Tryd.results32, go_sem]) rfl ⟨rfl, (Below.refl _ _).alloc (Nat.le_refl _) _⟩

set_option maxHeartbeats 400000 in
theorem last_some (b o n c : Nat) (k m : Int) (w : World) (h0 : 0 < n) (hn : n ≤ 1000000)
    (h1 : w.cell? ⟨b, o + (n - 1) * 2, none⟩ = some (.int .u8 k)) (h2 : w.cell? ⟨b, o + (n - 1) * 2 + 1, none⟩ = some (.int .i64 m)) :
    Calls Tryd.prog 32 #[.slice (some ⟨b, o, none⟩) n c] w fun e w' => e = .returned (.tuple #[.agg #[.int .u8 k, .int .i64 m], .bool true]) ∧ Below w.heap.size w w' := by
  have hz : ((n : Int) == 0) = false := by simp; omega
  have hb := cell_lt h1
  go_enter Tryd.func32, Tryd.ntmps32
  go_wp2
  exact bodyPost_ret (v := .tuple #[.agg #[.int .u8 k, .int .i64 m], .bool true]) (by simp [results, Tryd.results32, go_sem]) rfl ⟨rfl, ((Below.refl _ _).alloc (Nat.le_refl _) _)⟩

/-- What a slice of events looks like at its last element. -/
theorem EvS.last {w : World} {a : Option Addr} {n : Nat} {k m : Nat → Int} (h : EvS w a n k m) (h0 : 0 < n) :
    ∃ b o, a = some ⟨b, o, none⟩ ∧ w.cell? ⟨b, o + (n - 1) * 2, none⟩ = some (.int .u8 (k (n - 1))) ∧ w.cell? ⟨b, o + (n - 1) * 2 + 1, none⟩ = some (.int .i64 (m (n - 1))) := by
  rcases h with h | ⟨b, o, e, h1, h2⟩
  · omega
  · exact ⟨b, o, e, h1 _ (by omega), h2 _ (by omega)⟩

set_option maxHeartbeats 400000 in
theorem full_none (a : Option Addr) (n c : Nat) (k m : Nat → Int) (w : World) (hn : n ≤ 1000000) (h : EvS w a n k m) (hf : isFull n k m = false) :
    Calls Tryd.prog 30 #[.slice a n c] w fun e w' => e = .returned (.tuple #[.slice none 0 0, .bool false]) ∧ Below w.heap.size w w' := by
  by_cases h0 : 0 < n
  · obtain ⟨b, o, rfl, h1, h2⟩ := h.last h0
    have hne : ∀ w, (binOp .neq 44 (.agg #[.int .u8 (k (n - 1)), .int .i64 (m (n - 1))]) (.agg #[.int .u8 4, .int .i64 3])).run Tryd.prog w = .ok (.bool true) w := fun w => by
      rw [neqEv]; congr 2
      have : ¬ (k (n - 1) = 4 ∧ m (n - 1) = 3) := fun hh => by simp [isFull, h0, hh.1, hh.2] at hf
      rw [Bool.not_eq_true', Bool.and_eq_false_iff]; simp only [beq_eq_false_iff_ne]
      exact (Decidable.not_and_iff_or_not.1 this)
    have HF := Lib.hid hf; have H1 := Lib.hid h1; have H2 := Lib.hid h2
    clear h hf h1 h2
    go_enter Tryd.func30, Tryd.ntmps30
    go_wp2_with (go_at_call 32; refine (last_some b o n c _ _ _ h0 hn H1.out H2.out).mono ?_; rintro e w1 ⟨rfl, hb⟩)
    go_ret2
    exact ⟨rfl, hb.alloc hb.size _⟩
  · obtain rfl : n = 0 := by omega
    clear h hf
    go_enter Tryd.func30, Tryd.ntmps30
    go_wp2_with (go_at_call 32; refine (last_zero a c _).mono ?_; rintro e w1 ⟨rfl, hb⟩)
    go_ret2
    exact ⟨rfl, hb.alloc hb.size _⟩

set_option maxHeartbeats 400000 in
theorem full_some (a : Option Addr) (n c : Nat) (k m : Nat → Int) (w : World) (hn : n ≤ 1000000) (hc : n ≤ c) (h : EvS w a n k m) (hf : isFull n k m = true) :
    Calls Tryd.prog 30 #[.slice a n c] w fun e w' => e = .returned (.tuple #[.slice a (n - 1 : Nat) c, .bool true]) ∧ Below w.heap.size w w' := by
  have hx : 0 < n ∧ k (n - 1) = 4 ∧ m (n - 1) = 3 := by simpa [isFull] using hf
  obtain ⟨h0, hk, hm⟩ := hx
  obtain ⟨b, o, rfl, h1, h2⟩ := h.last h0
  rw [hk] at h1; rw [hm] at h2
  have hne : ∀ w, (binOp .neq 44 (.agg #[.int .u8 4, .int .i64 3]) (.agg #[.int .u8 4, .int .i64 3])).run Tryd.prog w = .ok (.bool false) w := fun w => by rw [neqEv]; rfl
  have HF := Lib.hid hf; have H1 := Lib.hid h1; have H2 := Lib.hid h2
  have hz : ((n : Int) == 0) = false := by simp; omega
  have e1 : (((n - 1 : Nat)) : Int) = (n : Int) - 1 := by omega
  have E1 := Lib.hid e1
  clear h hf h1 h2 hk hm e1
  go_enter Tryd.func30, Tryd.ntmps30
  go_wp2_with (go_at_call 32; refine (last_some b o n c _ _ _ h0 hn H1.out H2.out).mono ?_; rintro e w1 ⟨rfl, hb⟩)
  go_ret2
  exact ⟨rfl, hb.alloc hb.size _⟩

set_option maxHeartbeats 800000 in
theorem follows_any (a a' : Option Addr) (n c n' c' : Nat) (k m k' m' : Nat → Int) (w : World) (hn : n ≤ 1000000) (hc : n ≤ c) (hn' : n' ≤ 1000000) (hc' : n' ≤ c') (h : EvS w a n k m) (h' : EvS w a' n' k' m') :
    Calls Tryd.prog 12 #[.slice a n c, .slice a' n' c'] w fun e w' => e = .returned (.bool (fol n k m n' k' m')) ∧ Below w.heap.size w w' := by
  have H := Lib.hid h; have H' := Lib.hid h'
  clear h h'
  cases hf : isFull n k m with
  | false =>
    have HF := Lib.hid hf
    cases hb : beg n' k' m' n k m with
    | false =>
      have hr : fol n k m n' k' m' = false := by simp [fol, hb, hf]
      have HR := Lib.hid hr; have HB := Lib.hid hb
      clear hr hf hb
      go_enter Tryd.func12, Tryd.ntmps12
      go_wp2_with (first | (go_at_call 30; refine (full_none a n c k m _ hn H.out HF.out).mono ?_; rintro e w1 ⟨rfl, hb1⟩) | (go_at_call 9; refine (begins_any a' a n' n c' c k' m' k m _ hn' hn hc' (H'.out.below hb1) (H.out.below hb1)).mono ?_; rw [HB.out]; rintro e w2 ⟨rfl, hb2⟩))
      go_ret
      exact ⟨ret_bool HR.out.symm, below_next hb1 hb2⟩
    | true =>
      have hr : fol n k m n' k' m' = true := by simp [fol, hb]
      have HR := Lib.hid hr; have HB := Lib.hid hb
      clear hr hf hb
      go_enter Tryd.func12, Tryd.ntmps12
      go_wp2_with (first | (go_at_call 30; refine (full_none a n c k m _ hn H.out HF.out).mono ?_; rintro e w1 ⟨rfl, hb1⟩) | (go_at_call 9; refine (begins_any a' a n' n c' c k' m' k m _ hn' hn hc' (H'.out.below hb1) (H.out.below hb1)).mono ?_; rw [HB.out]; rintro e w2 ⟨rfl, hb2⟩))
      go_ret
      exact ⟨ret_bool HR.out.symm, below_next hb1 hb2⟩
  | true =>
    have HF := Lib.hid hf
    cases hb : beg n' k' m' n k m with
    | false =>
      have hr : fol n k m n' k' m' = beg n' k' m' (n - 1) k m := by simp [fol, hb, hf]
      have HR := Lib.hid hr; have HB := Lib.hid hb
      clear hr hf hb
      go_enter Tryd.func12, Tryd.ntmps12
      go_wp2_with (first | (go_at_call 30; refine (full_some a n c k m _ hn hc H.out HF.out).mono ?_; rintro e w1 ⟨rfl, hb1⟩) | fail)
      refine (begins_any a' a n' n c' c k' m' k m _ hn' hn hc' (H'.out.below hb1) (H.out.below hb1)).mono ?_; rw [HB.out]; rintro e w2 ⟨rfl, hb2⟩
      go_wp2_with fail
      refine (begins_any a' a n' (n - 1) c' c k' m' k m _ hn' (by omega) hc' ((H'.out.below hb1).below hb2) (((H.out.below hb1).below hb2).take _ (by omega))).mono ?_; rintro e w3 ⟨rfl, hb3⟩
      go_wp2_with fail
      go_ret
      exact ⟨ret_bool HR.out.symm, below_next (below_next hb1 hb2) hb3⟩
    | true =>
      have hr : fol n k m n' k' m' = true := by simp [fol, hb]
      have HR := Lib.hid hr; have HB := Lib.hid hb
      clear hr hf hb
      go_enter Tryd.func12, Tryd.ntmps12
      go_wp2_with (first | (go_at_call 30; refine (full_some a n c k m _ hn hc H.out HF.out).mono ?_; rintro e w1 ⟨rfl, hb1⟩) | (go_at_call 9; refine (begins_any a' a n' n c' c k' m' k m _ hn' hn hc' (H'.out.below hb1) (H.out.below hb1)).mono ?_; rw [HB.out]; rintro e w2 ⟨rfl, hb2⟩))
      go_ret
      exact ⟨ret_bool HR.out.symm, below_next hb1 hb2⟩

set_option maxHeartbeats 400000 in
theorem rbegins_go (b1 o1 b2 o2 n1 n c1 c2 : Nat) (k1 m1 k2 m2 : Nat → Int) (w : World) (hn : n ≤ 1000000) (hn1 : n1 ≤ 1000000) (hle : n ≤ n1)
    (hk1 : ∀ i, i < n → w.cell? ⟨b1, o1 + i * 2, none⟩ = some (.int .u8 (k1 i))) (hm1 : ∀ i, i < n → w.cell? ⟨b1, o1 + i * 2 + 1, none⟩ = some (.int .i64 (m1 i)))
    (hk2 : ∀ i, i < n → w.cell? ⟨b2, o2 + i * 2, none⟩ = some (.int .u8 (k2 i))) (hm2 : ∀ i, i < n → w.cell? ⟨b2, o2 + i * 2 + 1, none⟩ = some (.int .i64 (m2 i))) :
    Calls Tryd.prog 18 #[.slice (some ⟨b1, o1, none⟩) n1 c1, .slice (some ⟨b2, o2, none⟩) n c2] w fun e w' => e = .returned (.bool (evEq n k1 m1 k2 m2)) ∧ Below w.heap.size w w' := by
  go_enter Tryd.func18, Tryd.ntmps18
  go_wp2
  go_loopw [5] (fun i wr => ∃ k q : Nat, k ≤ n ∧ i = .int .i64 k ∧ wr = w.drewN q ∧ ∀ j, j < k → k1 j = k2 j ∧ m1 j = m2 j) (fun i _ => n - (intOf i).toNat)
  case atStart => exact ⟨0, 0, Nat.zero_le _, rfl, rfl, fun j hj => absurd hj (Nat.not_lt_zero _)⟩
  case round =>
    obtain ⟨k, q, hk, rfl, rfl, hall⟩ := hrel
    have H := Lib.hid hall; clear hall
    by_cases hlt : k < n
    · have e1 := hk1 k hlt
      have e2 := hm1 k hlt
      have e3 := hk2 k hlt
      have e4 := hm2 k hlt
      clear hk1 hm1 hk2 hm2
      by_cases hx : k1 k = k2 k ∧ m1 k = m2 k
      · have hne : ∀ w, (binOp .neq 44 (.agg #[.int .u8 (k1 k), .int .i64 (m1 k)]) (.agg #[.int .u8 (k2 k), .int .i64 (m2 k)])).run Tryd.prog w = .ok (.bool false) w := fun w => by rw [neqEv]; simp [hx.1, hx.2]
        have HX := Lib.hid hx; clear hx
        go_wp2
        go_quiet (fail)
        go_wp2
        go_roundw
        case rel => exact ⟨k + 1, q + nq, by omega, by go_num, rfl, fun j hj => by
          by_cases hjk : j = k
          · rw [hjk]; exact HX.out
          · exact H.out j (by omega)⟩
        case measure => simp [intOf]; omega
      · have hne : ∀ w, (binOp .neq 44 (.agg #[.int .u8 (k1 k), .int .i64 (m1 k)]) (.agg #[.int .u8 (k2 k), .int .i64 (m2 k)])).run Tryd.prog w = .ok (.bool true) w := fun w => by
          rw [neqEv]; congr 2; rw [Bool.not_eq_true', Bool.and_eq_false_iff]; simp only [beq_eq_false_iff_ne]
          exact (Decidable.not_and_iff_or_not.1 hx)
        have HX := Lib.hid hx; clear hx
        go_wp2
        go_quiet (fail)
        go_wp2
        go_ret
        exact ⟨ret_bool (Eq.symm (decide_eq_false (fun h => HX.out (h k hlt)))), by rw [World.drewN_drewN]; exact below_drewN _ _⟩
    · go_wp2
      go_ret
      exact ⟨ret_bool (Eq.symm (decide_eq_true (fun i hi => H.out i (by omega)))), below_drewN _ _⟩

set_option maxHeartbeats 400000 in
theorem same_go (b1 o1 b2 o2 n1 n c1 c2 : Nat) (k1 m1 k2 m2 : Nat → Int) (w : World) (hn : n ≤ 1000000) (hn1 : n1 ≤ 1000000) (hle : n1 = n1)
    (hk1 : ∀ i, i < n → w.cell? ⟨b1, o1 + i * 2, none⟩ = some (.int .u8 (k1 i))) (hm1 : ∀ i, i < n → w.cell? ⟨b1, o1 + i * 2 + 1, none⟩ = some (.int .i64 (m1 i)))
    (hk2 : ∀ i, i < n → w.cell? ⟨b2, o2 + i * 2, none⟩ = some (.int .u8 (k2 i))) (hm2 : ∀ i, i < n → w.cell? ⟨b2, o2 + i * 2 + 1, none⟩ = some (.int .i64 (m2 i))) :
    Calls Tryd.prog 10 #[.slice (some ⟨b1, o1, none⟩) n c1, .slice (some ⟨b2, o2, none⟩) n c2] w fun e w' => e = .returned (.bool (evEq n k1 m1 k2 m2)) ∧ Below w.heap.size w w' := by
  go_enter Tryd.func10, Tryd.ntmps10
  go_wp2
  go_loopw [5] (fun i wr => ∃ k q : Nat, k ≤ n ∧ i = .int .i64 k ∧ wr = w.drewN q ∧ ∀ j, j < k → k1 j = k2 j ∧ m1 j = m2 j) (fun i _ => n - (intOf i).toNat)
  case atStart => exact ⟨0, 0, Nat.zero_le _, rfl, rfl, fun j hj => absurd hj (Nat.not_lt_zero _)⟩
  case round =>
    obtain ⟨k, q, hk, rfl, rfl, hall⟩ := hrel
    have H := Lib.hid hall; clear hall
    by_cases hlt : k < n
    · have e1 := hk1 k hlt
      have e2 := hm1 k hlt
      have e3 := hk2 k hlt
      have e4 := hm2 k hlt
      clear hk1 hm1 hk2 hm2
      by_cases hx : k1 k = k2 k ∧ m1 k = m2 k
      · have hne : ∀ w, (binOp .neq 44 (.agg #[.int .u8 (k1 k), .int .i64 (m1 k)]) (.agg #[.int .u8 (k2 k), .int .i64 (m2 k)])).run Tryd.prog w = .ok (.bool false) w := fun w => by rw [neqEv]; simp [hx.1, hx.2]
        have HX := Lib.hid hx; clear hx
        go_wp2
        go_quiet (fail)
        go_wp2
        go_roundw
        case rel => exact ⟨k + 1, q + nq, by omega, by go_num, rfl, fun j hj => by
          by_cases hjk : j = k
          · rw [hjk]; exact HX.out
          · exact H.out j (by omega)⟩
        case measure => simp [intOf]; omega
      · have hne : ∀ w, (binOp .neq 44 (.agg #[.int .u8 (k1 k), .int .i64 (m1 k)]) (.agg #[.int .u8 (k2 k), .int .i64 (m2 k)])).run Tryd.prog w = .ok (.bool true) w := fun w => by
          rw [neqEv]; congr 2; rw [Bool.not_eq_true', Bool.and_eq_false_iff]; simp only [beq_eq_false_iff_ne]
          exact (Decidable.not_and_iff_or_not.1 hx)
        have HX := Lib.hid hx; clear hx
        go_wp2
        go_quiet (fail)
        go_wp2
        go_ret
        exact ⟨ret_bool (Eq.symm (decide_eq_false (fun h => HX.out (h k hlt)))), by rw [World.drewN_drewN]; exact below_drewN _ _⟩
    · go_wp2
      go_ret
      exact ⟨ret_bool (Eq.symm (decide_eq_true (fun i hi => H.out i (by omega)))), below_drewN _ _⟩

set_option maxHeartbeats 400000 in
theorem rbegins_zero (a1 a2 : Option Addr) (n1 c1 c2 : Nat) (k1 m1 k2 m2 : Nat → Int) (w : World) :
    Calls Tryd.prog 18 #[.slice a1 n1 c1, .slice a2 0 c2] w fun e w' => e = .returned (.bool (evEq 0 k1 m1 k2 m2)) ∧ Below w.heap.size w w' := by
  go_enter Tryd.func18, Tryd.ntmps18
  go_wp2
  refine wp_loop_rounds 1 ?_
  rw [rounds_succ]
  go_wp2
  go_ret
  exact ⟨ret_bool (Eq.symm (decide_eq_true (fun i hi => absurd hi (Nat.not_lt_zero _)))), Below.refl _ _⟩

set_option maxHeartbeats 400000 in
theorem rbegins_long (a1 a2 : Option Addr) (n1 n2 c1 c2 : Nat) (w : World) (h : n1 < n2) (hn2 : n2 ≤ 1000000) :
    Calls Tryd.prog 18 #[.slice a1 n1 c1, .slice a2 n2 c2] w fun e w' => e = .returned (.bool false) ∧ Below w.heap.size w w' := by
  go_enter Tryd.func18, Tryd.ntmps18
  go_wp2
  go_ret
  exact ⟨rfl, Below.refl _ _⟩

theorem rbegins_any (a1 a2 : Option Addr) (n1 n2 c1 c2 : Nat) (k1 m1 k2 m2 : Nat → Int) (w : World) (hn1 : n1 ≤ 1000000) (hn2 : n2 ≤ 1000000)
    (h1 : EvS w a1 n1 k1 m1) (h2 : EvS w a2 n2 k2 m2) :
    Calls Tryd.prog 18 #[.slice a1 n1 c1, .slice a2 n2 c2] w fun e w' => e = .returned (.bool (beg n1 k1 m1 n2 k2 m2)) ∧ Below w.heap.size w w' := by
  by_cases hle : n2 ≤ n1
  · have hb : beg n1 k1 m1 n2 k2 m2 = evEq n2 k1 m1 k2 m2 := by simp [beg, hle]
    rw [hb]
    rcases h2 with rfl | ⟨b2, o2, rfl, hk2, hm2⟩
    · exact rbegins_zero a1 a2 n1 c1 c2 k1 m1 k2 m2 w
    · rcases h1.take n2 hle with rfl | ⟨b1, o1, rfl, hk1, hm1⟩
      · exact rbegins_zero a1 _ n1 c1 c2 k1 m1 k2 m2 w
      · exact rbegins_go b1 o1 b2 o2 n1 n2 c1 c2 k1 m1 k2 m2 w hn2 hn1 hle hk1 hm1 hk2 hm2
  · have hb : beg n1 k1 m1 n2 k2 m2 = false := by simp [beg, hle]
    rw [hb]
    exact rbegins_long a1 a2 n1 n2 c1 c2 w (by omega) hn2

set_option maxHeartbeats 400000 in
theorem same_zero (a1 a2 : Option Addr) (c1 c2 : Nat) (k1 m1 k2 m2 : Nat → Int) (w : World) :
    Calls Tryd.prog 10 #[.slice a1 0 c1, .slice a2 0 c2] w fun e w' => e = .returned (.bool (evEq 0 k1 m1 k2 m2)) ∧ Below w.heap.size w w' := by
  go_enter Tryd.func10, Tryd.ntmps10
  go_wp2
  refine wp_loop_rounds 1 ?_
  rw [rounds_succ]
  go_wp2
  go_ret
  exact ⟨ret_bool (Eq.symm (decide_eq_true (fun i hi => absurd hi (Nat.not_lt_zero _)))), Below.refl _ _⟩

set_option maxHeartbeats 400000 in
theorem same_lens (a1 a2 : Option Addr) (n1 n2 c1 c2 : Nat) (w : World) (h : ((n1 : Int) != n2) = true) :
    Calls Tryd.prog 10 #[.slice a1 n1 c1, .slice a2 n2 c2] w fun e w' => e = .returned (.bool false) ∧ Below w.heap.size w w' := by
  go_enter Tryd.func10, Tryd.ntmps10
  go_wp2
  go_ret
  exact ⟨rfl, Below.refl _ _⟩

/-- Are two rows the same? -/
def sam (n1 : Nat) (k1 m1 : Nat → Int) (n2 : Nat) (k2 m2 : Nat → Int) : Bool := decide (n1 = n2) && evEq n2 k1 m1 k2 m2

theorem same_any (a1 a2 : Option Addr) (n1 n2 c1 c2 : Nat) (k1 m1 k2 m2 : Nat → Int) (w : World) (hn1 : n1 ≤ 1000000) (hn2 : n2 ≤ 1000000)
    (h1 : EvS w a1 n1 k1 m1) (h2 : EvS w a2 n2 k2 m2) :
    Calls Tryd.prog 10 #[.slice a1 n1 c1, .slice a2 n2 c2] w fun e w' => e = .returned (.bool (sam n1 k1 m1 n2 k2 m2)) ∧ Below w.heap.size w w' := by
  by_cases hle : n1 = n2
  · subst hle
    have hb : sam n1 k1 m1 n1 k2 m2 = evEq n1 k1 m1 k2 m2 := by simp [sam]
    rw [hb]
    rcases h2 with rfl | ⟨b2, o2, rfl, hk2, hm2⟩
    · exact same_zero a1 a2 c1 c2 k1 m1 k2 m2 w
    · rcases h1 with rfl | ⟨b1, o1, rfl, hk1, hm1⟩
      · exact same_zero a1 _ c1 c2 k1 m1 k2 m2 w
      · exact same_go b1 o1 b2 o2 n1 n1 c1 c2 k1 m1 k2 m2 w hn1 hn1 rfl hk1 hm1 hk2 hm2
  · have hb : sam n1 k1 m1 n2 k2 m2 = false := by simp [sam, hle]
    rw [hb]
    exact same_lens a1 a2 n1 n2 c1 c2 w (by rw [bne_iff_ne]; omega)

end Go.Proofs.YtadcegfdojocmaaDoor
