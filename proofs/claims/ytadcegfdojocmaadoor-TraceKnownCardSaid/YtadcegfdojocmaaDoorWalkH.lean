/- The walks over Reads of the package trace and of its reference: a new row of the numbers that were read, in order. By an AI agent. -/
import Derived.Test.YtadcegfdojocmaaDoorWalkF
namespace Go.Proofs.YtadcegfdojocmaaDoor
open Go.RowKit

/-- The numbers that were read among the first j events. -/
def rds (k m : Nat → Int) (j : Nat) : List Int := ((List.range j).filter fun i => k i == 1).map m
theorem rds_yes {k m : Nat → Int} {j : Nat} (h : k j = 1) : rds k m (j + 1) = rds k m j ++ [m j] := by
  simp [rds, List.range_succ, List.filter_append, h]
theorem rds_no {k m : Nat → Int} {j : Nat} (h : k j ≠ 1) : rds k m (j + 1) = rds k m j := by
  simp [rds, List.range_succ, List.filter_append, h]
theorem rds_le (k m : Nat → Int) (j : Nat) : (rds k m j).length ≤ j := by
  unfold rds; rw [List.length_map]; have := List.length_filter_le (fun i => k i == 1) (List.range j); simpa using this
def i64s (l : List Int) : List Value := l.map (Value.int .i64)
theorem info2 : (Tryd.prog.info? 2).map (fun i => (i.zero, i.size, i.bytes)) = some (some (.int .i64 0), 1, 8) := by kernel_rfl

theorem is_one_v (b c : Nat) (x k m : Int) (v : Bool) (w : World) (h0 : w.cell? ⟨b, 0, none⟩ = some (.int .u8 x)) (hv : decide (x = k) = v) :
    Calls Tryd.prog 31 #[.agg #[.int .u8 k, .int .i64 m], .slice (some ⟨b, 0, none⟩) 1 c] w fun e w' => e = .returned (.bool v) ∧ Below w.heap.size w w' := by
  have hh : has 1 (fun _ => x) k = v := by
    rw [← hv]; unfold has; rw [Bool.eq_iff_iff]; simp only [decide_eq_true_eq]
    exact ⟨fun ⟨_, _, h⟩ => h, fun h => ⟨0, by omega, h⟩⟩
  rw [← hh]
  refine is_any b 0 1 c (fun _ => x) k m w (by omega) (fun i hi => ?_)
  match i, hi with
  | 0, _ => exact h0

set_option maxRecDepth 100000 in
set_option maxHeartbeats 2000000 in
theorem reads_go (b o n c : Nat) (k m : Nat → Int) (w : World) (hn : n ≤ 1000000)
    (hk : ∀ i, i < n → w.cell? ⟨b, o + i * 2, none⟩ = some (.int .u8 (k i))) (hm : ∀ i, i < n → w.cell? ⟨b, o + i * 2 + 1, none⟩ = some (.int .i64 (m i))) :
    Calls Tryd.prog 20 #[.slice (some ⟨b, o, none⟩) n c] w fun e w' => ∃ v, e = .returned v ∧ w'.ownsRow w.heap.size 2 1 v (rds k m n).length (i64s (rds k m n)) ∧ Below w.heap.size w w' := by
  obtain ⟨i0, hi0, hz0, hz1, hz2⟩ := info_parts info2
  have HK := Lib.hid hk; have HM := Lib.hid hm
  clear hk hm
  go_enter Tryd.func20, Tryd.ntmps20
  go_wp2_with fail
  go_loopw [3, 8] (fun v i wr => ∃ j : Nat, j ≤ n ∧ i = .int .i64 j ∧ Below w.heap.size w wr ∧ wr.ownsRow w.heap.size 2 1 v (rds k m j).length (i64s (rds k m j))) (fun _ i _ => n - (intOf i).toNat)
  case atStart => exact ⟨0, Nat.zero_le _, rfl, Below.refl _ _, World.ownsRow_nil _ _ _ _⟩
  case round =>
    obtain ⟨j, hj, rfl, hb, hown⟩ := hrel
    by_cases hlt : j < n
    · have e1 := cell_later hb (HK.out j hlt)
      have e2 := cell_later hb (HM.out j hlt)
      have hlb := cell_lt e1
      have hsz := hb.size
      by_cases hp : k j = 1
      · have HP := Lib.hid hp
        rw [hp] at e1
        clear hp
        have HOWN := Lib.hid hown; clear hown
        go_wp2_with fail
        refine (is_one_v _ _ 1 1 (m j) true _ (by simp) (by simp)).mono ?_; rintro e w2 ⟨rfl, hb2⟩
        have g2 : w2.cell? ⟨wr.heap.size, 1, none⟩ = some (.int .i64 (m j)) := (hb2.cell (p := ⟨_, _, none⟩) (by simp; omega)).trans (by simp)
        have HOWN2 := Lib.hid (own_below ((HOWN.out.alloc _).alloc _) hb2)
        have hsz2 := hb2.size
        simp only [World.size_alloc] at hsz2
        have hle := rds_le k m j
        go_wp2_with (at_builtin; refine wpList_append_own _ rfl _ _ 29 rfl w.heap.size 2 i0 (.int .i64 0) 1 8 Tryd.underlying29 hi0 hz0 hz1 hz2 rfl (by decide) _ _ _ rfl (HOWN2.out.alloc _) ⟨w2.heap.size, 0, none⟩ 1 1 [.int .i64 (m j)] rfl rfl (World.news_of_block (cs := #[.int .i64 (m j)]) (t := 2) (fr := (0, 0)) (heap_alloc_new w2 _)) (by simp [Value.oneCell']) (by unfold maxLen; omega) (by omega) ?_ ?_)
        · simp; omega
        intro v' w4 hown4 hgrow _
        go_wp2_with fail
        go_roundw
        case rel => exact ⟨j + 1, by omega, by go_num, (((((hb.alloc hsz _).alloc (by simp; omega) _).trans (hb2.mono (by simp; omega)))).alloc (by omega) _).grown hgrow (by simp; omega) (fun q e => (HOWN.out.lt q e).1), by
          rw [rds_yes HP.out, List.length_append, i64s, List.map_append]; exact hown4⟩
        case measure => simp [intOf]; omega
      · have HP := Lib.hid hp
        have HOWN := Lib.hid hown; clear hown
        go_wp2_with fail
        refine (is_one_v _ _ 1 (k j) (m j) false _ (by simp) (decide_eq_false (fun e => HP.out e.symm))).mono ?_; rintro e w2 ⟨rfl, hb2⟩
        have HOWN2 := Lib.hid (own_below ((HOWN.out.alloc _).alloc _) hb2)
        go_wp2_with fail
        go_roundw
        case rel => exact ⟨j + 1, by omega, by go_num, ((hb.alloc hsz _).alloc (by simp; omega) _).trans (hb2.mono (by simp; omega)), by rw [rds_no HP.out]; exact HOWN2.out⟩
        case measure => simp [intOf]; omega
    · obtain rfl : j = n := by omega
      go_wp2_with fail
      go_ret
      exact ⟨_, rfl, hown, hb⟩

set_option maxHeartbeats 400000 in
theorem reads_zero (a : Option Addr) (c : Nat) (k m : Nat → Int) (w : World) :
    Calls Tryd.prog 20 #[.slice a 0 c] w fun e w' => ∃ v, e = .returned v ∧ w'.ownsRow w.heap.size 2 1 v (rds k m 0).length (i64s (rds k m 0)) ∧ Below w.heap.size w w' := by
  go_enter Tryd.func20, Tryd.ntmps20
  go_wp2_with fail
  refine wp_loop_rounds 1 ?_
  rw [rounds_succ]
  go_wp2_with fail
  go_ret
  exact ⟨_, rfl, World.ownsRow_nil _ _ _ _, Below.refl _ _⟩

theorem reads_any (a : Option Addr) (n c : Nat) (k m : Nat → Int) (w : World) (hn : n ≤ 1000000) (h : EvS w a n k m) :
    Calls Tryd.prog 20 #[.slice a n c] w fun e w' => ∃ v, e = .returned v ∧ w'.ownsRow w.heap.size 2 1 v (rds k m n).length (i64s (rds k m n)) ∧ Below w.heap.size w w' := by
  rcases h with rfl | ⟨b, o, rfl, h1, h2⟩
  · exact reads_zero a c k m w
  · exact reads_go b o n c k m w hn h1 h2

set_option maxRecDepth 100000 in
set_option maxHeartbeats 2000000 in
theorem rreads_go (b o n c : Nat) (k m : Nat → Int) (w : World) (hn : n ≤ 1000000)
    (hk : ∀ i, i < n → w.cell? ⟨b, o + i * 2, none⟩ = some (.int .u8 (k i))) (hm : ∀ i, i < n → w.cell? ⟨b, o + i * 2 + 1, none⟩ = some (.int .i64 (m i))) :
    Calls Tryd.prog 21 #[.slice (some ⟨b, o, none⟩) n c] w fun e w' => ∃ v, e = .returned v ∧ w'.ownsRow w.heap.size 2 1 v (rds k m n).length (i64s (rds k m n)) ∧ Below w.heap.size w w' := by
  obtain ⟨i0, hi0, hz0, hz1, hz2⟩ := info_parts info2
  have HK := Lib.hid hk; have HM := Lib.hid hm
  clear hk hm
  go_enter Tryd.func21, Tryd.ntmps21
  go_wp2_with fail
  go_loopw [3, 4] (fun v i wr => ∃ j : Nat, j ≤ n ∧ i = .int .i64 j ∧ Below w.heap.size w wr ∧ wr.ownsRow w.heap.size 2 1 v (rds k m j).length (i64s (rds k m j))) (fun _ i _ => n - (intOf i).toNat)
  case atStart => exact ⟨0, Nat.zero_le _, rfl, Below.refl _ _, World.ownsRow_nil _ _ _ _⟩
  case round =>
    obtain ⟨j, hj, rfl, hb, hown⟩ := hrel
    by_cases hlt : j < n
    · have e1 := cell_later hb (HK.out j hlt)
      have e2 := cell_later hb (HM.out j hlt)
      have hlb := cell_lt e1
      have hsz := hb.size
      have hle := rds_le k m j
      by_cases hp : k j = 1
      · have HP := Lib.hid hp
        rw [hp] at e1
        clear hp
        have HOWN := Lib.hid hown; clear hown
        go_wp2_with (at_builtin; refine wpList_append_own _ rfl _ _ 29 rfl w.heap.size 2 i0 (.int .i64 0) 1 8 Tryd.underlying29 hi0 hz0 hz1 hz2 rfl (by decide) _ _ _ rfl (HOWN.out.alloc _) ⟨wr.heap.size, 0, none⟩ 1 1 [.int .i64 (m j)] rfl rfl (World.news_of_block (cs := #[.int .i64 (m j)]) (t := 2) (fr := (0, 0)) (heap_alloc_new wr _)) (by simp [Value.oneCell']) (by unfold maxLen; omega) (by omega) ?_ ?_)
        · simp; omega
        intro v' w4 hown4 hgrow _
        go_wp2_with fail
        go_roundw
        case rel => exact ⟨j + 1, by omega, by go_num, (hb.alloc hsz _).grown hgrow (by simp; omega) (fun q e => (HOWN.out.lt q e).1), by
          rw [rds_yes HP.out, List.length_append, i64s, List.map_append]; exact hown4⟩
        case measure => simp [intOf]; omega
      · have HP := Lib.hid hp
        have hpb : (k j == 1) = false := beq_eq_false_iff_ne.2 hp
        go_wp2_with fail
        go_roundw
        case rel => exact ⟨j + 1, by omega, by go_num, hb, by rw [rds_no HP.out]; exact hown⟩
        case measure => simp [intOf]; omega
    · obtain rfl : j = n := by omega
      go_wp2_with fail
      go_ret
      exact ⟨_, rfl, hown, hb⟩

set_option maxHeartbeats 400000 in
theorem rreads_zero (a : Option Addr) (c : Nat) (k m : Nat → Int) (w : World) :
    Calls Tryd.prog 21 #[.slice a 0 c] w fun e w' => ∃ v, e = .returned v ∧ w'.ownsRow w.heap.size 2 1 v (rds k m 0).length (i64s (rds k m 0)) ∧ Below w.heap.size w w' := by
  go_enter Tryd.func21, Tryd.ntmps21
  go_wp2_with fail
  refine wp_loop_rounds 1 ?_
  rw [rounds_succ]
  go_wp2_with fail
  go_ret
  exact ⟨_, rfl, World.ownsRow_nil _ _ _ _, Below.refl _ _⟩

theorem rreads_any (a : Option Addr) (n c : Nat) (k m : Nat → Int) (w : World) (hn : n ≤ 1000000) (h : EvS w a n k m) :
    Calls Tryd.prog 21 #[.slice a n c] w fun e w' => ∃ v, e = .returned v ∧ w'.ownsRow w.heap.size 2 1 v (rds k m n).length (i64s (rds k m n)) ∧ Below w.heap.size w w' := by
  rcases h with rfl | ⟨b, o, rfl, h1, h2⟩
  · exact rreads_zero a c k m w
  · exact rreads_go b o n c k m w hn h1 h2
end Go.Proofs.YtadcegfdojocmaaDoor
