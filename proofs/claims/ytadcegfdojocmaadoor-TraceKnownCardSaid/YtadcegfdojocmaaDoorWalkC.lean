/- The walks over Apart and Agree of the package trace, and over the reference's functions: each returns what its plain law says. By an AI agent. -/
import Derived.Test.YtadcegfdojocmaaDoorWalkB
namespace Go.Proofs.YtadcegfdojocmaaDoor
open Go.RowKit

/-- The first place below n at which two rows part; -1: there is none. -/
def fd (n : Nat) (k1 m1 k2 m2 : Nat → Int) : Int :=
  match (List.range n).find? (fun i => !(k1 i == k2 i && m1 i == m2 i)) with
  | some i => i
  | none => -1
theorem fd_none {n : Nat} {k1 m1 k2 m2 : Nat → Int} (h : ∀ j, j < n → k1 j = k2 j ∧ m1 j = m2 j) : fd n k1 m1 k2 m2 = -1 := by
  have : (List.range n).find? (fun i => !(k1 i == k2 i && m1 i == m2 i)) = none := by
    rw [List.find?_eq_none]; intro x hx; obtain ⟨a, b⟩ := h x (List.mem_range.1 hx); simp [a, b]
  unfold fd; rw [this]
theorem find_range (p : Nat → Bool) (n j : Nat) (hj : j < n) (hp : p j = true) (hf : ∀ i, i < j → p i = false) : (List.range n).find? p = some j := by
  obtain ⟨d, rfl⟩ : ∃ d, n = j + (d + 1) := ⟨n - j - 1, by omega⟩
  rw [List.range_add, List.find?_append]
  have : (List.range j).find? p = none := by
    rw [List.find?_eq_none]; intro x hx; simp [hf x (List.mem_range.1 hx)]
  rw [this, List.range_succ_eq_map]
  simp [hp]
theorem fd_at {n k : Nat} {k1 m1 k2 m2 : Nat → Int} (h : ∀ j, j < k → k1 j = k2 j ∧ m1 j = m2 j) (hk : k < n) (hx : ¬ (k1 k = k2 k ∧ m1 k = m2 k)) : fd n k1 m1 k2 m2 = k := by
  have : (List.range n).find? (fun i => !(k1 i == k2 i && m1 i == m2 i)) = some k := by
    refine find_range _ n k hk ?_ ?_
    · rw [Bool.not_eq_true', Bool.and_eq_false_iff]; simp only [beq_eq_false_iff_ne]
      exact (Decidable.not_and_iff_or_not.1 hx)
    · intro i hi; obtain ⟨a, b⟩ := h i hi; simp [a, b]
  unfold fd; rw [this]
theorem neq_no {k m k' m' : Int} (h : k = k' ∧ m = m') : ∀ w, (binOp .neq 44 (.agg #[.int .u8 k, .int .i64 m]) (.agg #[.int .u8 k', .int .i64 m'])).run Tryd.prog w = .ok (.bool false) w := fun w => by rw [neqEv]; simp [h.1, h.2]
theorem neq_yes {k m k' m' : Int} (h : ¬ (k = k' ∧ m = m')) : ∀ w, (binOp .neq 44 (.agg #[.int .u8 k, .int .i64 m]) (.agg #[.int .u8 k', .int .i64 m'])).run Tryd.prog w = .ok (.bool true) w := fun w => by
  rw [neqEv]; congr 2; rw [Bool.not_eq_true', Bool.and_eq_false_iff]; simp only [beq_eq_false_iff_ne]
  exact (Decidable.not_and_iff_or_not.1 h)

set_option maxHeartbeats 1000000 in
theorem apart_go (b1 o1 b2 o2 n1 n2 c1 c2 : Nat) (k1 m1 k2 m2 : Nat → Int) (w : World) (h1n : n1 ≤ 1000000) (h2n : n2 ≤ 1000000)
    (hk1 : ∀ i, i < n1 → w.cell? ⟨b1, o1 + i * 2, none⟩ = some (.int .u8 (k1 i))) (hm1 : ∀ i, i < n1 → w.cell? ⟨b1, o1 + i * 2 + 1, none⟩ = some (.int .i64 (m1 i)))
    (hk2 : ∀ i, i < n2 → w.cell? ⟨b2, o2 + i * 2, none⟩ = some (.int .u8 (k2 i))) (hm2 : ∀ i, i < n2 → w.cell? ⟨b2, o2 + i * 2 + 1, none⟩ = some (.int .i64 (m2 i))) :
    Calls Tryd.prog 13 #[.slice (some ⟨b1, o1, none⟩) n1 c1, .slice (some ⟨b2, o2, none⟩) n2 c2] w fun e w' => e = .returned (.int .i64 (fd (min n1 n2) k1 m1 k2 m2)) ∧ Below w.heap.size w w' := by
  by_cases hle : n1 ≤ n2
  · rw [Nat.min_eq_left hle]
    replace hk2 := fun i (hi : i < n1) => hk2 i (by omega)
    replace hm2 := fun i (hi : i < n1) => hm2 i (by omega)
    go_enter Tryd.func13, Tryd.ntmps13
    go_wp2
    go_loopw [11] (fun i wr => ∃ k q : Nat, k ≤ n1 ∧ i = .int .i64 k ∧ wr = w.drewN q ∧ ∀ j, j < k → k1 j = k2 j ∧ m1 j = m2 j) (fun i _ => n1 - (intOf i).toNat)
    case atStart => exact ⟨0, 0, Nat.zero_le _, rfl, rfl, fun j hj => absurd hj (Nat.not_lt_zero _)⟩
    case round =>
      obtain ⟨k, q, hk, rfl, rfl, hall⟩ := hrel
      have H := Lib.hid hall; clear hall
      by_cases hlt : k < n1
      · have e1 := hk1 k hlt
        have e2 := hm1 k hlt
        have e3 := hk2 k hlt
        have e4 := hm2 k hlt
        clear hk1 hm1 hk2 hm2
        by_cases hx : k1 k = k2 k ∧ m1 k = m2 k
        · have hne := neq_no hx
          have HX := Lib.hid hx; clear hx
          go_wp2
          go_quiet (fail)
          go_wp2
          go_roundw
          case rel => exact ⟨k + 1, q + nq, by omega, by go_num, rfl, fun j hj => by
            by_cases hjk : j = k
            · rw [hjk]; exact HX.out
            · exact H.out j (by omega)⟩
          case measure => simp [intOf]; omega
        · have hne := neq_yes hx
          have HX := Lib.hid hx; clear hx
          go_wp2
          go_quiet (fail)
          go_wp2
          go_ret
          exact ⟨ret_int (fd_at H.out (by omega) HX.out).symm, by rw [World.drewN_drewN]; exact below_drewN _ _⟩
      · clear hk1 hm1 hk2 hm2
        go_wp2
        go_ret
        exact ⟨ret_int (fd_none (fun i hi => H.out i (by omega))).symm, below_drewN _ _⟩
  · rw [Nat.min_eq_right (by omega)]
    replace hk1 := fun i (hi : i < n2) => hk1 i (by omega)
    replace hm1 := fun i (hi : i < n2) => hm1 i (by omega)
    go_enter Tryd.func13, Tryd.ntmps13
    go_wp2
    go_loopw [11] (fun i wr => ∃ k q : Nat, k ≤ n2 ∧ i = .int .i64 k ∧ wr = w.drewN q ∧ ∀ j, j < k → k1 j = k2 j ∧ m1 j = m2 j) (fun i _ => n2 - (intOf i).toNat)
    case atStart => exact ⟨0, 0, Nat.zero_le _, rfl, rfl, fun j hj => absurd hj (Nat.not_lt_zero _)⟩
    case round =>
      obtain ⟨k, q, hk, rfl, rfl, hall⟩ := hrel
      have H := Lib.hid hall; clear hall
      by_cases hlt : k < n2
      · have e1 := hk1 k hlt
        have e2 := hm1 k hlt
        have e3 := hk2 k hlt
        have e4 := hm2 k hlt
        clear hk1 hm1 hk2 hm2
        by_cases hx : k1 k = k2 k ∧ m1 k = m2 k
        · have hne := neq_no hx
          have HX := Lib.hid hx; clear hx
          go_wp2
          go_quiet (fail)
          go_wp2
          go_roundw
          case rel => exact ⟨k + 1, q + nq, by omega, by go_num, rfl, fun j hj => by
            by_cases hjk : j = k
            · rw [hjk]; exact HX.out
            · exact H.out j (by omega)⟩
          case measure => simp [intOf]; omega
        · have hne := neq_yes hx
          have HX := Lib.hid hx; clear hx
          go_wp2
          go_quiet (fail)
          go_wp2
          go_ret
          exact ⟨ret_int (fd_at H.out (by omega) HX.out).symm, by rw [World.drewN_drewN]; exact below_drewN _ _⟩
      · clear hk1 hm1 hk2 hm2
        go_wp2
        go_ret
        exact ⟨ret_int (fd_none (fun i hi => H.out i (by omega))).symm, below_drewN _ _⟩

set_option maxHeartbeats 400000 in
theorem apart_zero (a1 a2 : Option Addr) (n1 n2 c1 c2 : Nat) (k1 m1 k2 m2 : Nat → Int) (w : World) (h1n : n1 ≤ 1000000) (h2n : n2 ≤ 1000000) (h : min n1 n2 = 0) :
    Calls Tryd.prog 13 #[.slice a1 n1 c1, .slice a2 n2 c2] w fun e w' => e = .returned (.int .i64 (fd (min n1 n2) k1 m1 k2 m2)) ∧ Below w.heap.size w w' := by
  rw [h]
  by_cases h0 : n1 = 0
  · subst h0
    clear h
    go_enter Tryd.func13, Tryd.ntmps13
    go_wp2
    refine wp_loop_rounds 1 ?_
    rw [rounds_succ]
    go_wp2
    go_ret
    exact ⟨ret_int (fd_none (fun i hi => absurd hi (Nat.not_lt_zero _))).symm, Below.refl _ _⟩
  · obtain rfl : n2 = 0 := by omega
    have hp : 0 < n1 := by omega
    have hle : ¬ n1 ≤ 0 := by omega
    clear h h0
    go_enter Tryd.func13, Tryd.ntmps13
    go_wp2
    refine wp_loop_rounds 1 ?_
    rw [rounds_succ]
    go_wp2
    go_ret
    exact ⟨ret_int (fd_none (fun i hi => absurd hi (Nat.not_lt_zero _))).symm, Below.refl _ _⟩

theorem apart_any (a1 a2 : Option Addr) (n1 n2 c1 c2 : Nat) (k1 m1 k2 m2 : Nat → Int) (w : World) (hn1 : n1 ≤ 1000000) (hn2 : n2 ≤ 1000000)
    (h1 : EvS w a1 n1 k1 m1) (h2 : EvS w a2 n2 k2 m2) :
    Calls Tryd.prog 13 #[.slice a1 n1 c1, .slice a2 n2 c2] w fun e w' => e = .returned (.int .i64 (fd (min n1 n2) k1 m1 k2 m2)) ∧ Below w.heap.size w w' := by
  rcases h1 with rfl | ⟨b1, o1, rfl, hk1, hm1⟩
  · exact apart_zero a1 a2 0 n2 c1 c2 k1 m1 k2 m2 w hn1 hn2 (by omega)
  · rcases h2 with rfl | ⟨b2, o2, rfl, hk2, hm2⟩
    · exact apart_zero _ a2 n1 0 c1 c2 k1 m1 k2 m2 w hn1 hn2 (by omega)
    · exact apart_go b1 o1 b2 o2 n1 n2 c1 c2 k1 m1 k2 m2 w hn1 hn2 hk1 hm1 hk2 hm2

set_option maxHeartbeats 1000000 in
theorem rapart_go (b1 o1 b2 o2 n1 n2 c1 c2 : Nat) (k1 m1 k2 m2 : Nat → Int) (w : World) (h1n : n1 ≤ 1000000) (h2n : n2 ≤ 1000000)
    (hk1 : ∀ i, i < n1 → w.cell? ⟨b1, o1 + i * 2, none⟩ = some (.int .u8 (k1 i))) (hm1 : ∀ i, i < n1 → w.cell? ⟨b1, o1 + i * 2 + 1, none⟩ = some (.int .i64 (m1 i)))
    (hk2 : ∀ i, i < n2 → w.cell? ⟨b2, o2 + i * 2, none⟩ = some (.int .u8 (k2 i))) (hm2 : ∀ i, i < n2 → w.cell? ⟨b2, o2 + i * 2 + 1, none⟩ = some (.int .i64 (m2 i))) :
    Calls Tryd.prog 19 #[.slice (some ⟨b1, o1, none⟩) n1 c1, .slice (some ⟨b2, o2, none⟩) n2 c2] w fun e w' => e = .returned (.int .i64 (fd (min n1 n2) k1 m1 k2 m2)) ∧ Below w.heap.size w w' := by
  by_cases hle : n1 ≤ n2
  · rw [Nat.min_eq_left hle]
    replace hk2 := fun i (hi : i < n1) => hk2 i (by omega)
    replace hm2 := fun i (hi : i < n1) => hm2 i (by omega)
    go_enter Tryd.func19, Tryd.ntmps19
    go_wp2
    go_loopw [5] (fun i wr => ∃ k q : Nat, k ≤ n1 ∧ i = .int .i64 k ∧ wr = w.drewN q ∧ ∀ j, j < k → k1 j = k2 j ∧ m1 j = m2 j) (fun i _ => n1 - (intOf i).toNat)
    case atStart => exact ⟨0, 0, Nat.zero_le _, rfl, rfl, fun j hj => absurd hj (Nat.not_lt_zero _)⟩
    case round =>
      obtain ⟨k, q, hk, rfl, rfl, hall⟩ := hrel
      have H := Lib.hid hall; clear hall
      by_cases hlt : k < n1
      · have e1 := hk1 k hlt
        have e2 := hm1 k hlt
        have e3 := hk2 k hlt
        have e4 := hm2 k hlt
        clear hk1 hm1 hk2 hm2
        by_cases hx : k1 k = k2 k ∧ m1 k = m2 k
        · have hne := neq_no hx
          have HX := Lib.hid hx; clear hx
          go_wp2
          go_quiet (fail)
          go_wp2
          go_roundw
          case rel => exact ⟨k + 1, q + nq, by omega, by go_num, rfl, fun j hj => by
            by_cases hjk : j = k
            · rw [hjk]; exact HX.out
            · exact H.out j (by omega)⟩
          case measure => simp [intOf]; omega
        · have hne := neq_yes hx
          have HX := Lib.hid hx; clear hx
          go_wp2
          go_quiet (fail)
          go_wp2
          go_ret
          exact ⟨ret_int (fd_at H.out (by omega) HX.out).symm, by rw [World.drewN_drewN]; exact below_drewN _ _⟩
      · clear hk1 hm1 hk2 hm2
        go_wp2
        go_ret
        exact ⟨ret_int (fd_none (fun i hi => H.out i (by omega))).symm, below_drewN _ _⟩
  · rw [Nat.min_eq_right (by omega)]
    replace hk1 := fun i (hi : i < n2) => hk1 i (by omega)
    replace hm1 := fun i (hi : i < n2) => hm1 i (by omega)
    go_enter Tryd.func19, Tryd.ntmps19
    go_wp2
    go_loopw [5] (fun i wr => ∃ k q : Nat, k ≤ n2 ∧ i = .int .i64 k ∧ wr = w.drewN q ∧ ∀ j, j < k → k1 j = k2 j ∧ m1 j = m2 j) (fun i _ => n2 - (intOf i).toNat)
    case atStart => exact ⟨0, 0, Nat.zero_le _, rfl, rfl, fun j hj => absurd hj (Nat.not_lt_zero _)⟩
    case round =>
      obtain ⟨k, q, hk, rfl, rfl, hall⟩ := hrel
      have H := Lib.hid hall; clear hall
      by_cases hlt : k < n2
      · have e1 := hk1 k hlt
        have e2 := hm1 k hlt
        have e3 := hk2 k hlt
        have e4 := hm2 k hlt
        clear hk1 hm1 hk2 hm2
        by_cases hx : k1 k = k2 k ∧ m1 k = m2 k
        · have hne := neq_no hx
          have HX := Lib.hid hx; clear hx
          go_wp2
          go_quiet (fail)
          go_wp2
          go_roundw
          case rel => exact ⟨k + 1, q + nq, by omega, by go_num, rfl, fun j hj => by
            by_cases hjk : j = k
            · rw [hjk]; exact HX.out
            · exact H.out j (by omega)⟩
          case measure => simp [intOf]; omega
        · have hne := neq_yes hx
          have HX := Lib.hid hx; clear hx
          go_wp2
          go_quiet (fail)
          go_wp2
          go_ret
          exact ⟨ret_int (fd_at H.out (by omega) HX.out).symm, by rw [World.drewN_drewN]; exact below_drewN _ _⟩
      · clear hk1 hm1 hk2 hm2
        go_wp2
        go_ret
        exact ⟨ret_int (fd_none (fun i hi => H.out i (by omega))).symm, below_drewN _ _⟩

set_option maxHeartbeats 400000 in
theorem rapart_zero (a1 a2 : Option Addr) (n1 n2 c1 c2 : Nat) (k1 m1 k2 m2 : Nat → Int) (w : World) (h1n : n1 ≤ 1000000) (h2n : n2 ≤ 1000000) (h : min n1 n2 = 0) :
    Calls Tryd.prog 19 #[.slice a1 n1 c1, .slice a2 n2 c2] w fun e w' => e = .returned (.int .i64 (fd (min n1 n2) k1 m1 k2 m2)) ∧ Below w.heap.size w w' := by
  rw [h]
  by_cases h0 : n1 = 0
  · subst h0
    clear h
    go_enter Tryd.func19, Tryd.ntmps19
    go_wp2
    refine wp_loop_rounds 1 ?_
    rw [rounds_succ]
    go_wp2
    go_ret
    exact ⟨ret_int (fd_none (fun i hi => absurd hi (Nat.not_lt_zero _))).symm, Below.refl _ _⟩
  · obtain rfl : n2 = 0 := by omega
    have hp : 0 < n1 := by omega
    have hle : ¬ n1 ≤ 0 := by omega
    clear h h0
    go_enter Tryd.func19, Tryd.ntmps19
    go_wp2
    refine wp_loop_rounds 1 ?_
    rw [rounds_succ]
    go_wp2
    go_ret
    exact ⟨ret_int (fd_none (fun i hi => absurd hi (Nat.not_lt_zero _))).symm, Below.refl _ _⟩

theorem rapart_any (a1 a2 : Option Addr) (n1 n2 c1 c2 : Nat) (k1 m1 k2 m2 : Nat → Int) (w : World) (hn1 : n1 ≤ 1000000) (hn2 : n2 ≤ 1000000)
    (h1 : EvS w a1 n1 k1 m1) (h2 : EvS w a2 n2 k2 m2) :
    Calls Tryd.prog 19 #[.slice a1 n1 c1, .slice a2 n2 c2] w fun e w' => e = .returned (.int .i64 (fd (min n1 n2) k1 m1 k2 m2)) ∧ Below w.heap.size w w' := by
  rcases h1 with rfl | ⟨b1, o1, rfl, hk1, hm1⟩
  · exact rapart_zero a1 a2 0 n2 c1 c2 k1 m1 k2 m2 w hn1 hn2 (by omega)
  · rcases h2 with rfl | ⟨b2, o2, rfl, hk2, hm2⟩
    · exact rapart_zero _ a2 n1 0 c1 c2 k1 m1 k2 m2 w hn1 hn2 (by omega)
    · exact rapart_go b1 o1 b2 o2 n1 n2 c1 c2 k1 m1 k2 m2 w hn1 hn2 hk1 hm1 hk2 hm2

end Go.Proofs.YtadcegfdojocmaaDoor
