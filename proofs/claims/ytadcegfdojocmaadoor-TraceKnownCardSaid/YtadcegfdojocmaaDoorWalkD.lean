/- The walks over Agree of the package trace, and over the reference's Follows, Agree, Right, Ended: each returns what its plain law says. By an AI agent. -/
import Derived.Test.YtadcegfdojocmaaDoorWalkC
namespace Go.Proofs.YtadcegfdojocmaaDoor
open Go.RowKit

theorem begins_v (a1 a2 : Option Addr) (n1 n2 c1 c2 : Nat) (k1 m1 k2 m2 : Nat → Int) (v : Bool) (w : World) (hn1 : n1 ≤ 1000000) (hn2 : n2 ≤ 1000000) (hc1 : n1 ≤ c1)
    (h1 : EvS w a1 n1 k1 m1) (h2 : EvS w a2 n2 k2 m2) (hv : beg n1 k1 m1 n2 k2 m2 = v) :
    Calls Tryd.prog 9 #[.slice a1 n1 c1, .slice a2 n2 c2] w fun e w' => e = .returned (.bool v) ∧ Below w.heap.size w w' := hv ▸ begins_any a1 a2 n1 n2 c1 c2 k1 m1 k2 m2 w hn1 hn2 hc1 h1 h2

theorem rbegins_v (a1 a2 : Option Addr) (n1 n2 c1 c2 : Nat) (k1 m1 k2 m2 : Nat → Int) (v : Bool) (w : World) (hn1 : n1 ≤ 1000000) (hn2 : n2 ≤ 1000000)
    (h1 : EvS w a1 n1 k1 m1) (h2 : EvS w a2 n2 k2 m2) (hv : beg n1 k1 m1 n2 k2 m2 = v) :
    Calls Tryd.prog 18 #[.slice a1 n1 c1, .slice a2 n2 c2] w fun e w' => e = .returned (.bool v) ∧ Below w.heap.size w w' := hv ▸ rbegins_any a1 a2 n1 n2 c1 c2 k1 m1 k2 m2 w hn1 hn2 h1 h2

set_option maxHeartbeats 4000000 in
theorem agree_nofull (a a' : Option Addr) (n c n' c' : Nat) (k m k' m' : Nat → Int) (en ov A B : Bool) (w : World) (hn : n ≤ 1000000) (hc : n ≤ c) (hn' : n' ≤ 1000000) (hc' : n' ≤ c') (h : EvS w a n k m) (h' : EvS w a' n' k' m')
    (hf : isFull n k m = false) (hA : beg n k m n' k' m' = A) (hB : beg n' k' m' n k m = B) :
    Calls Tryd.prog 11 #[.slice a n c, .bool en, .slice a' n' c', .bool ov] w fun e w' => e = .returned (.bool ((A || B) && (A || !en) && (B || !ov))) ∧ Below w.heap.size w w' := by
  have H := Lib.hid h; have H' := Lib.hid h'; have HF := Lib.hid hf; have HA := Lib.hid hA; have HB := Lib.hid hB
  clear h h' hf hA hB
  cases en <;> cases ov <;> cases A <;> cases B
  all_goals
    go_enter Tryd.func11, Tryd.ntmps11
    go_wp2_with fail
    refine (full_none a n c k m _ hn H.out HF.out).mono ?_; rintro e w1 ⟨rfl, hb1⟩
    go_wp2_with fail
    refine (begins_v a a' n n' c c' k m k' m' _ _ hn hn' hc (H.out.below hb1) (H'.out.below hb1) HA.out).mono ?_; rintro e w2 ⟨rfl, hb2⟩
    go_wp2_with fail
    refine (begins_v a' a n' n c' c k' m' k m _ _ hn' hn hc' ((H'.out.below hb1).below hb2) ((H.out.below hb1).below hb2) HB.out).mono ?_; rintro e w3 ⟨rfl, hb3⟩
    go_wp2_with fail
    go_ret
    exact ⟨rfl, below_next (below_next hb1 hb2) hb3⟩

set_option maxHeartbeats 4000000 in
theorem agree_noend (a a' : Option Addr) (n c n' c' : Nat) (k m k' m' : Nat → Int) (ov A B : Bool) (w : World) (hn : n ≤ 1000000) (hc : n ≤ c) (hn' : n' ≤ 1000000) (hc' : n' ≤ c') (h : EvS w a n k m) (h' : EvS w a' n' k' m')
    (hf : isFull n k m = true) (hA : beg n k m n' k' m' = A) (hB : beg n' k' m' n k m = B) :
    Calls Tryd.prog 11 #[.slice a n c, .bool false, .slice a' n' c', .bool ov] w fun e w' => e = .returned (.bool ((A || B) && (B || !ov))) ∧ Below w.heap.size w w' := by
  have H := Lib.hid h; have H' := Lib.hid h'; have HF := Lib.hid hf; have HA := Lib.hid hA; have HB := Lib.hid hB
  clear h h' hf hA hB
  cases ov <;> cases A <;> cases B
  all_goals
    go_enter Tryd.func11, Tryd.ntmps11
    go_wp2_with fail
    refine (full_some a n c k m _ hn hc H.out HF.out).mono ?_; rintro e w1 ⟨rfl, hb1⟩
    go_wp2_with fail
    refine (begins_v a a' n n' c c' k m k' m' _ _ hn hn' hc (H.out.below hb1) (H'.out.below hb1) HA.out).mono ?_; rintro e w2 ⟨rfl, hb2⟩
    go_wp2_with fail
    refine (begins_v a' a n' n c' c k' m' k m _ _ hn' hn hc' ((H'.out.below hb1).below hb2) ((H.out.below hb1).below hb2) HB.out).mono ?_; rintro e w3 ⟨rfl, hb3⟩
    go_wp2_with fail
    go_ret
    exact ⟨rfl, below_next (below_next hb1 hb2) hb3⟩

set_option maxHeartbeats 4000000 in
theorem agree_full (a a' : Option Addr) (n c n' c' : Nat) (k m k' m' : Nat → Int) (ov A B : Bool) (w : World) (hn : n ≤ 1000000) (hc : n ≤ c) (hn' : n' ≤ 1000000) (hc' : n' ≤ c') (h : EvS w a n k m) (h' : EvS w a' n' k' m')
    (hf : isFull n k m = true) (hA : beg n' k' m' (n - 1) k m = A) (hB : beg (n - 1) k m n' k' m' = B) :
    Calls Tryd.prog 11 #[.slice a n c, .bool true, .slice a' n' c', .bool ov] w fun e w' => e = .returned (.bool (A || (!ov && B))) ∧ Below w.heap.size w w' := by
  have H := Lib.hid h; have H' := Lib.hid h'; have HF := Lib.hid hf; have HA := Lib.hid hA; have HB := Lib.hid hB
  clear h h' hf hA hB
  cases A
  case true =>
    go_enter Tryd.func11, Tryd.ntmps11
    go_wp2_with fail
    refine (full_some a n c k m _ hn hc H.out HF.out).mono ?_; rintro e w1 ⟨rfl, hb1⟩
    go_wp2_with fail
    refine (begins_v a' a n' (n - 1) c' c k' m' k m _ _ hn' (by omega) hc' (H'.out.below hb1) ((H.out.below hb1).take _ (by omega)) HA.out).mono ?_; rintro e w2 ⟨rfl, hb2⟩
    go_wp2_with fail
    go_ret
    exact ⟨rfl, below_next hb1 hb2⟩
  case false =>
    cases ov
    case true =>
      go_enter Tryd.func11, Tryd.ntmps11
      go_wp2_with fail
      refine (full_some a n c k m _ hn hc H.out HF.out).mono ?_; rintro e w1 ⟨rfl, hb1⟩
      go_wp2_with fail
      refine (begins_v a' a n' (n - 1) c' c k' m' k m _ _ hn' (by omega) hc' (H'.out.below hb1) ((H.out.below hb1).take _ (by omega)) HA.out).mono ?_; rintro e w2 ⟨rfl, hb2⟩
      go_wp2_with fail
      go_ret
      exact ⟨rfl, below_next hb1 hb2⟩
    case false =>
      go_enter Tryd.func11, Tryd.ntmps11
      go_wp2_with fail
      refine (full_some a n c k m _ hn hc H.out HF.out).mono ?_; rintro e w1 ⟨rfl, hb1⟩
      go_wp2_with fail
      refine (begins_v a' a n' (n - 1) c' c k' m' k m _ _ hn' (by omega) hc' (H'.out.below hb1) ((H.out.below hb1).take _ (by omega)) HA.out).mono ?_; rintro e w2 ⟨rfl, hb2⟩
      go_wp2_with fail
      refine (begins_v a a' (n - 1) n' c c' k m k' m' _ _ (by omega) hn' (by omega) (((H.out.below hb1).below hb2).take _ (by omega)) ((H'.out.below hb1).below hb2) HB.out).mono ?_; rintro e w3 ⟨rfl, hb3⟩
      go_wp2_with fail
      go_ret
      exact ⟨rfl, below_next (below_next hb1 hb2) hb3⟩

theorem agree_any (a a' : Option Addr) (n c n' c' : Nat) (k m k' m' : Nat → Int) (en ov : Bool) (w : World) (hn : n ≤ 1000000) (hc : n ≤ c) (hn' : n' ≤ 1000000) (hc' : n' ≤ c') (h : EvS w a n k m) (h' : EvS w a' n' k' m') :
    Calls Tryd.prog 11 #[.slice a n c, .bool en, .slice a' n' c', .bool ov] w fun e w' => e = .returned (.bool (agr n k m en n' k' m' ov)) ∧ Below w.heap.size w w' := by
  unfold agr
  cases hf : isFull n k m
  · simp only [Bool.false_and, Bool.false_eq_true, if_false]
    exact agree_nofull a a' n c n' c' k m k' m' en ov _ _ w hn hc hn' hc' h h' hf rfl rfl
  · cases en
    · simp only [Bool.and_false, Bool.false_eq_true, if_false, Bool.not_false, Bool.or_true, Bool.and_true]
      exact agree_noend a a' n c n' c' k m k' m' ov _ _ w hn hc hn' hc' h h' hf rfl rfl
    · simp only [Bool.and_self, if_true]
      exact agree_full a a' n c n' c' k m k' m' ov _ _ w hn hc hn' hc' h h' hf rfl rfl

/-! The reference's functions -/
set_option maxHeartbeats 1000000 in
theorem rfull_zero (a : Option Addr) (c : Nat) (w : World) :
    Calls Tryd.prog 33 #[.slice a 0 c] w fun e w' => e = .returned (.bool false) ∧ w = w' := by
  go_enter Tryd.func33, Tryd.ntmps33
  go_wp2_with fail
  go_ret
  exact ⟨rfl, rfl⟩
set_option maxHeartbeats 1000000 in
theorem rfull_some (b o n c : Nat) (k m : Int) (w : World) (h0 : 0 < n) (hn : n ≤ 1000000)
    (h1 : w.cell? ⟨b, o + (n - 1) * 2, none⟩ = some (.int .u8 k)) (h2 : w.cell? ⟨b, o + (n - 1) * 2 + 1, none⟩ = some (.int .i64 m)) :
    Calls Tryd.prog 33 #[.slice (some ⟨b, o, none⟩) n c] w fun e w' => e = .returned (.bool (k == 4 && m == 3)) ∧ w = w' := by
  cases hk : k == 4 <;> cases hm : m == 3
  all_goals
    go_enter Tryd.func33, Tryd.ntmps33
    go_wp2_with fail
    go_ret
    exact ⟨rfl, rfl⟩
theorem rfull_any (a : Option Addr) (n c : Nat) (k m : Nat → Int) (v : Bool) (w : World) (hn : n ≤ 1000000) (h : EvS w a n k m) (hv : isFull n k m = v) :
    Calls Tryd.prog 33 #[.slice a n c] w fun e w' => e = .returned (.bool v) ∧ w = w' := by
  subst hv
  by_cases h0 : 0 < n
  · obtain ⟨b, o, rfl, h1, h2⟩ := h.last h0
    have hr : isFull n k m = (k (n - 1) == 4 && m (n - 1) == 3) := by
      unfold isFull; rw [Bool.eq_iff_iff]; simp [h0]
    rw [hr]
    exact rfull_some b o n c _ _ w h0 hn h1 h2
  · obtain rfl : n = 0 := by omega
    have hr : isFull 0 k m = false := by simp [isFull]
    rw [hr]
    exact rfull_zero a c w

set_option maxHeartbeats 4000000 in
theorem rfollows_v (a a' : Option Addr) (n c n' c' : Nat) (k m k' m' : Nat → Int) (A B F : Bool) (w : World) (hn : n ≤ 1000000) (hc : n ≤ c) (hn' : n' ≤ 1000000) (h : EvS w a n k m) (h' : EvS w a' n' k' m')
    (hf : isFull n k m = F) (hA : beg n' k' m' n k m = A) (hB : beg n' k' m' (n - 1) k m = B) :
    Calls Tryd.prog 22 #[.slice a n c, .slice a' n' c'] w fun e w' => e = .returned (.bool (A || (F && B))) ∧ Below w.heap.size w w' := by
  have h0 : F = true → 0 < n := fun e => by subst e; simp [isFull] at hf; omega
  have H := Lib.hid h; have H' := Lib.hid h'; have HF := Lib.hid hf; have HA := Lib.hid hA; have HB := Lib.hid hB
  clear h h' hf hA hB
  cases A
  case true =>
    go_enter Tryd.func22, Tryd.ntmps22
    go_wp2_with fail
    refine (rbegins_v a' a n' n c' c k' m' k m _ _ hn' hn H'.out H.out HA.out).mono ?_; rintro e w2 ⟨rfl, hb2⟩
    go_wp2_with fail
    go_ret
    exact ⟨rfl, hb2⟩
  case false =>
    cases F
    case false =>
      go_enter Tryd.func22, Tryd.ntmps22
      go_wp2_with fail
      refine (rbegins_v a' a n' n c' c k' m' k m _ _ hn' hn H'.out H.out HA.out).mono ?_; rintro e w2 ⟨rfl, hb2⟩
      go_wp2_with fail
      refine (rfull_any a n c k m _ _ hn (H.out.below hb2) HF.out).mono ?_; rintro e w3 ⟨rfl, rfl⟩
      go_wp2_with fail
      go_ret
      exact ⟨rfl, hb2⟩
    case true =>
      have hp : 0 < n := h0 rfl
      go_enter Tryd.func22, Tryd.ntmps22
      go_wp2_with fail
      refine (rbegins_v a' a n' n c' c k' m' k m _ _ hn' hn H'.out H.out HA.out).mono ?_; rintro e w2 ⟨rfl, hb2⟩
      go_wp2_with fail
      refine (rfull_any a n c k m _ _ hn (H.out.below hb2) HF.out).mono ?_; rintro e w3 ⟨rfl, rfl⟩
      go_wp2_with fail
      refine (rbegins_v a' a n' (n - 1) c' c k' m' k m _ _ hn' (by omega) (H'.out.below hb2) ((H.out.below hb2).take _ (by omega)) HB.out).mono ?_; rintro e w3 ⟨rfl, hb3⟩
      go_wp2_with fail
      go_ret
      exact ⟨rfl, below_next hb2 hb3⟩

end Go.Proofs.YtadcegfdojocmaaDoor
