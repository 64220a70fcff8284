/- The walks over the reference's Agree, Right, Ended: each returns what its plain law says. By an AI agent. -/
import Derived.Test.YtadcegfdojocmaaDoorWalkD
namespace Go.Proofs.YtadcegfdojocmaaDoor
open Go.RowKit

theorem rfollows_any (a a' : Option Addr) (n c n' c' : Nat) (k m k' m' : Nat → Int) (w : World) (hn : n ≤ 1000000) (hc : n ≤ c) (hn' : n' ≤ 1000000) (h : EvS w a n k m) (h' : EvS w a' n' k' m') :
    Calls Tryd.prog 22 #[.slice a n c, .slice a' n' c'] w fun e w' => e = .returned (.bool (fol n k m n' k' m')) ∧ Below w.heap.size w w' :=
  rfollows_v a a' n c n' c' k m k' m' _ _ _ w hn hc hn' h h' rfl rfl rfl

set_option maxHeartbeats 4000000 in
theorem ragree_full (a a' : Option Addr) (n c n' c' : Nat) (k m k' m' : Nat → Int) (ov A B : Bool) (w : World) (hn : n ≤ 1000000) (hc : n ≤ c) (hn' : n' ≤ 1000000) (h : EvS w a n k m) (h' : EvS w a' n' k' m')
    (hf : isFull n k m = true) (hA : beg n' k' m' (n - 1) k m = A) (hB : beg (n - 1) k m n' k' m' = B) :
    Calls Tryd.prog 23 #[.slice a n c, .bool true, .slice a' n' c', .bool ov] w fun e w' => e = .returned (.bool (A || (!ov && B))) ∧ Below w.heap.size w w' := by
  have hp : 0 < n := by simp [isFull] at hf; omega
  have H := Lib.hid h; have H' := Lib.hid h'; have HF := Lib.hid hf; have HA := Lib.hid hA; have HB := Lib.hid hB
  clear h h' hf hA hB
  cases A
  case true =>
    go_enter Tryd.func23, Tryd.ntmps23
    go_wp2_with fail
    refine (rfull_any a n c k m _ _ hn H.out HF.out).mono ?_; rintro e w1 ⟨rfl, rfl⟩
    go_wp2_with fail
    refine (rbegins_v a' a n' (n - 1) c' c k' m' k m _ _ hn' (by omega) H'.out (H.out.take _ (by omega)) HA.out).mono ?_; rintro e w2 ⟨rfl, hb2⟩
    go_wp2_with fail
    go_ret
    exact ⟨rfl, hb2⟩
  case false =>
    cases ov
    case true =>
      go_enter Tryd.func23, Tryd.ntmps23
      go_wp2_with fail
      refine (rfull_any a n c k m _ _ hn H.out HF.out).mono ?_; rintro e w1 ⟨rfl, rfl⟩
      go_wp2_with fail
      refine (rbegins_v a' a n' (n - 1) c' c k' m' k m _ _ hn' (by omega) H'.out (H.out.take _ (by omega)) HA.out).mono ?_; rintro e w2 ⟨rfl, hb2⟩
      go_wp2_with fail
      go_ret
      exact ⟨rfl, hb2⟩
    case false =>
      go_enter Tryd.func23, Tryd.ntmps23
      go_wp2_with fail
      refine (rfull_any a n c k m _ _ hn H.out HF.out).mono ?_; rintro e w1 ⟨rfl, rfl⟩
      go_wp2_with fail
      refine (rbegins_v a' a n' (n - 1) c' c k' m' k m _ _ hn' (by omega) H'.out (H.out.take _ (by omega)) HA.out).mono ?_; rintro e w2 ⟨rfl, hb2⟩
      go_wp2_with fail
      refine (rbegins_v a a' (n - 1) n' c c' k m k' m' _ _ (by omega) hn' ((H.out.below hb2).take _ (by omega)) (H'.out.below hb2) HB.out).mono ?_; rintro e w3 ⟨rfl, hb3⟩
      go_wp2_with fail
      go_ret
      exact ⟨rfl, below_next hb2 hb3⟩

set_option maxHeartbeats 4000000 in
theorem ragree_nofull (a a' : Option Addr) (n c n' c' : Nat) (k m k' m' : Nat → Int) (ov A B : Bool) (w : World) (hn : n ≤ 1000000) (hn' : n' ≤ 1000000) (h : EvS w a n k m) (h' : EvS w a' n' k' m')
    (hf : isFull n k m = false) (hA : beg n k m n' k' m' = A) (hB : beg n' k' m' n k m = B) :
    Calls Tryd.prog 23 #[.slice a n c, .bool true, .slice a' n' c', .bool ov] w fun e w' => e = .returned (.bool ((A || B) && A && (B || !ov))) ∧ Below w.heap.size w w' := by
  have H := Lib.hid h; have H' := Lib.hid h'; have HF := Lib.hid hf; have HA := Lib.hid hA; have HB := Lib.hid hB
  clear h h' hf hA hB
  cases ov <;> cases A <;> cases B
  all_goals
    go_enter Tryd.func23, Tryd.ntmps23
    go_wp2_with fail
    refine (rfull_any a n c k m _ _ hn H.out HF.out).mono ?_; rintro e w1 ⟨rfl, rfl⟩
    go_wp2_with fail
    refine (rbegins_v a a' n n' c c' k m k' m' _ _ hn hn' H.out H'.out HA.out).mono ?_; rintro e w2 ⟨rfl, hb2⟩
    go_wp2_with fail
    refine (rbegins_v a' a n' n c' c k' m' k m _ _ hn' hn (H'.out.below hb2) (H.out.below hb2) HB.out).mono ?_; rintro e w3 ⟨rfl, hb3⟩
    go_wp2_with fail
    go_ret
    exact ⟨rfl, below_next hb2 hb3⟩

set_option maxHeartbeats 4000000 in
theorem ragree_noend (a a' : Option Addr) (n c n' c' : Nat) (k m k' m' : Nat → Int) (ov A B : Bool) (w : World) (hn : n ≤ 1000000) (hn' : n' ≤ 1000000) (h : EvS w a n k m) (h' : EvS w a' n' k' m')
    (hA : beg n k m n' k' m' = A) (hB : beg n' k' m' n k m = B) :
    Calls Tryd.prog 23 #[.slice a n c, .bool false, .slice a' n' c', .bool ov] w fun e w' => e = .returned (.bool ((A || B) && (B || !ov))) ∧ Below w.heap.size w w' := by
  have H := Lib.hid h; have H' := Lib.hid h'; have HA := Lib.hid hA; have HB := Lib.hid hB
  clear h h' hA hB
  cases ov <;> cases A <;> cases B
  all_goals
    go_enter Tryd.func23, Tryd.ntmps23
    go_wp2_with fail
    refine (rbegins_v a a' n n' c c' k m k' m' _ _ hn hn' H.out H'.out HA.out).mono ?_; rintro e w2 ⟨rfl, hb2⟩
    go_wp2_with fail
    refine (rbegins_v a' a n' n c' c k' m' k m _ _ hn' hn (H'.out.below hb2) (H.out.below hb2) HB.out).mono ?_; rintro e w3 ⟨rfl, hb3⟩
    go_wp2_with fail
    go_ret
    exact ⟨rfl, below_next hb2 hb3⟩

theorem ragree_any (a a' : Option Addr) (n c n' c' : Nat) (k m k' m' : Nat → Int) (en ov : Bool) (w : World) (hn : n ≤ 1000000) (hc : n ≤ c) (hn' : n' ≤ 1000000) (h : EvS w a n k m) (h' : EvS w a' n' k' m') :
    Calls Tryd.prog 23 #[.slice a n c, .bool en, .slice a' n' c', .bool ov] w fun e w' => e = .returned (.bool (agr n k m en n' k' m' ov)) ∧ Below w.heap.size w w' := by
  unfold agr
  cases en
  · simp only [Bool.and_false, Bool.false_eq_true, if_false, Bool.not_false, Bool.or_true, Bool.and_true]
    exact ragree_noend a a' n c n' c' k m k' m' ov _ _ w hn hn' h h' rfl rfl
  · cases hf : isFull n k m
    · simp only [Bool.false_and, Bool.false_eq_true, if_false, Bool.not_true, Bool.or_false]
      exact ragree_nofull a a' n c n' c' k m k' m' ov _ _ w hn hn' h h' hf rfl rfl
    · simp only [Bool.and_self, if_true]
      exact ragree_full a a' n c n' c' k m k' m' ov _ _ w hn hc hn' h h' hf rfl rfl

set_option maxHeartbeats 1000000 in
theorem rended_zero (a : Option Addr) (c : Nat) (w : World) :
    Calls Tryd.prog 17 #[.slice a 0 c] w fun e w' => e = .returned (.bool false) ∧ w = w' := by
  go_enter Tryd.func17, Tryd.ntmps17
  go_wp2_with fail
  go_ret
  exact ⟨rfl, rfl⟩
set_option maxHeartbeats 1000000 in
theorem rended_some (b o n c : Nat) (k : Int) (w : World) (h0 : 0 < n) (hn : n ≤ 1000000)
    (h1 : w.cell? ⟨b, o + (n - 1) * 2, none⟩ = some (.int .u8 k)) :
    Calls Tryd.prog 17 #[.slice (some ⟨b, o, none⟩) n c] w fun e w' => e = .returned (.bool (k == 3 || k == 4)) ∧ w = w' := by
  cases hk : k == 3 <;> cases hm : k == 4
  all_goals
    go_enter Tryd.func17, Tryd.ntmps17
    go_wp2_with fail
    go_ret
    exact ⟨rfl, rfl⟩
theorem rended_any (a : Option Addr) (n c : Nat) (k m : Nat → Int) (w : World) (hn : n ≤ 1000000) (h : EvS w a n k m) :
    Calls Tryd.prog 17 #[.slice a n c] w fun e w' => e = .returned (.bool (end' n k)) ∧ w = w' := by
  by_cases h0 : 0 < n
  · obtain ⟨b, o, rfl, h1, h2⟩ := h.last h0
    have hr : end' n k = (k (n - 1) == 3 || k (n - 1) == 4) := by
      unfold end'; rw [Bool.eq_iff_iff]; simp [h0]
    rw [hr]
    exact rended_some b o n c _ w h0 hn h1
  · obtain rfl : n = 0 := by omega
    have hr : end' 0 k = false := by simp [end']
    rw [hr]
    exact rended_zero a c w

/-- Kinds are bytes. -/
theorem okAt_iff {n j : Nat} {k : Nat → Int} (h0 : 0 ≤ k j) : okAt n k j ↔ ¬ (k j < 1) ∧ ¬ (4 < k j) ∧ ¬ (3 ≤ k j ∧ j + 1 ≠ n) := by
  unfold okAt; omega

set_option maxHeartbeats 4000000 in
theorem rright_go (b o n c : Nat) (k : Nat → Int) (w : World) (hn : n ≤ 1000000) (hb : ∀ i, i < n → 0 ≤ k i)
    (hk : ∀ i, i < n → w.cell? ⟨b, o + i * 2, none⟩ = some (.int .u8 (k i))) :
    Calls Tryd.prog 15 #[.slice (some ⟨b, o, none⟩) n c] w fun e w' => e = .returned (.bool (rgt n k)) ∧ w = w' := by
  have HB := Lib.hid hb; clear hb
  go_enter Tryd.func15, Tryd.ntmps15
  go_wp2_with fail
  go_loop [3] (fun i => ∃ j : Nat, j ≤ n ∧ i = .int .i64 j ∧ ∀ x, x < j → okAt n k x) (fun i => n - (intOf i).toNat)
  case atStart => exact ⟨0, Nat.zero_le _, rfl, fun j hj => absurd hj (Nat.not_lt_zero _)⟩
  case round =>
    obtain ⟨j, hj, rfl, hall⟩ := hrel
    have H := Lib.hid hall; clear hall
    by_cases hlt : j < n
    · have e1 := hk j hlt
      have h0 := HB.out j hlt
      clear hk
      by_cases g1 : k j < 1
      · have b1 : decide (k j < 1) = true := by simp [g1]
        go_wp2_with fail
        go_ret
        exact ⟨ret_bool (Eq.symm (decide_eq_false (fun h => ((okAt_iff h0).1 (h j hlt)).1 g1))), rfl⟩
      · have b1 : decide (k j < 1) = false := by simp; omega
        by_cases g2 : 4 < k j
        · have b2 : decide (4 < k j) = true := by simp [g2]
          go_wp2_with fail
          go_ret
          exact ⟨ret_bool (Eq.symm (decide_eq_false (fun h => ((okAt_iff h0).1 (h j hlt)).2.1 g2))), rfl⟩
        · have b2 : decide (4 < k j) = false := by simp; omega
          by_cases g3 : 3 ≤ k j
          · have b3 : decide (3 ≤ k j) = true := by simp [g3]
            by_cases g4 : (j : Int) < (n : Int) - 1
            · have b4 : decide ((j : Int) < (n : Int) - 1) = true := by simp [g4]
              go_wp2_with fail
              go_ret
              exact ⟨ret_bool (Eq.symm (decide_eq_false (fun h => ((okAt_iff h0).1 (h j hlt)).2.2 ⟨g3, by omega⟩))), rfl⟩
            · have b4 : decide ((j : Int) < (n : Int) - 1) = false := by simp; omega
              go_wp2_with fail
              go_round
              case rel => exact ⟨j + 1, by omega, by go_num, fun x hx => by
                by_cases hxj : x = j
                · rw [hxj]; exact (okAt_iff h0).2 ⟨g1, g2, by omega⟩
                · exact H.out x (by omega)⟩
              case measure => simp [intOf]; omega
          · have b3 : decide (3 ≤ k j) = false := by simp; omega
            go_wp2_with fail
            go_round
            case rel => exact ⟨j + 1, by omega, by go_num, fun x hx => by
              by_cases hxj : x = j
              · rw [hxj]; exact (okAt_iff h0).2 ⟨g1, g2, by omega⟩
              · exact H.out x (by omega)⟩
            case measure => simp [intOf]; omega
    · clear hk
      go_wp2_with fail
      go_ret
      exact ⟨ret_bool (Eq.symm (decide_eq_true (fun i hi => H.out i (by omega)))), rfl⟩

set_option maxHeartbeats 400000 in
theorem rright_zero (a : Option Addr) (c : Nat) (k : Nat → Int) (w : World) :
    Calls Tryd.prog 15 #[.slice a 0 c] w fun e w' => e = .returned (.bool (rgt 0 k)) ∧ w = w' := by
  go_enter Tryd.func15, Tryd.ntmps15
  go_wp2
  refine wp_loop_rounds 1 ?_
  rw [rounds_succ]
  go_wp2
  go_ret
  exact ⟨ret_bool (Eq.symm (decide_eq_true (fun i hi => absurd hi (Nat.not_lt_zero _)))), rfl⟩

theorem rright_any (a : Option Addr) (n c : Nat) (k m : Nat → Int) (w : World) (hn : n ≤ 1000000) (hb : ∀ i, i < n → 0 ≤ k i) (h : EvS w a n k m) :
    Calls Tryd.prog 15 #[.slice a n c] w fun e w' => e = .returned (.bool (rgt n k)) ∧ w = w' := by
  rcases h with rfl | ⟨b, o, rfl, h1, h2⟩
  · exact rright_zero a c k w
  · exact rright_go b o n c k w hn hb h1

end Go.Proofs.YtadcegfdojocmaaDoor
