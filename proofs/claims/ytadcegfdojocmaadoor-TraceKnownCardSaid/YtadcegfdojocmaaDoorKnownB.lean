/- The rows of TraceKnown, made in whatever order: the region. Printed by mk_known.py. By an AI agent. -/
import Derived.Test.YtadcegfdojocmaaDoorKnownC
import Derived.Deep.RegionHeld3
namespace Go.Proofs.YtadcegfdojocmaaDoor
open Go.RowKit

def dK (i : Nat) : Nat := if i = 36 then 2 else i + 9
def PrK : Nat → Value → World → Prop
  | 0 => EvV 2 1
  | 1 => RowB [(2, 1)]
  | 2 => EvV 2 1
  | 3 => EvV 2 2
  | 4 => RowB [(2, 1), (2, 2)]
  | 5 => EvV 2 1
  | 6 => EvV 2 3
  | 7 => RowB [(2, 1), (2, 3)]
  | 8 => EvV 2 1
  | 9 => EvV 4 3
  | 10 => RowB [(2, 1), (4, 3)]
  | 11 => EvV 4 3
  | 12 => RowB [(4, 3)]
  | 13 => EvV 2 1
  | 14 => EvV 2 2
  | 15 => EvV 3 7
  | 16 => RowB [(2, 1), (2, 2), (3, 7)]
  | 17 => EvV 1 (-9223372036854775808)
  | 18 => EvV 1 9223372036854775807
  | 19 => RowB [(1, -9223372036854775808), (1, 9223372036854775807)]
  | 20 => EvV 4 1
  | 21 => RowB [(4, 1)]
  | 22 => EvV 0 0
  | 23 => RowB [(0, 0)]
  | 24 => EvV 5 0
  | 25 => RowB [(5, 0)]
  | 26 => EvV 4 3
  | 27 => EvV 2 1
  | 28 => RowB [(4, 3), (2, 1)]
  | 29 => EvV 3 3
  | 30 => RowB [(3, 3)]
  | 31 => EvV 2 1
  | 32 => EvV 4 3
  | 33 => EvV 4 3
  | 34 => RowB [(2, 1), (4, 3), (4, 3)]
  | 35 => AllB
  | 36 => AllB
  | _ => fun _ _ => True
theorem PrK_below (i : Nat) (v : Value) (w w' : World) (hi : i < 37) (h : PrK i v w) (hb : Below w.heap.size w w') : PrK i v w' := by
  match i, hi, h with
  | 0, _, h => exact h
  | 1, _, h => exact RowB.below h hb
  | 2, _, h => exact h
  | 3, _, h => exact h
  | 4, _, h => exact RowB.below h hb
  | 5, _, h => exact h
  | 6, _, h => exact h
  | 7, _, h => exact RowB.below h hb
  | 8, _, h => exact h
  | 9, _, h => exact h
  | 10, _, h => exact RowB.below h hb
  | 11, _, h => exact h
  | 12, _, h => exact RowB.below h hb
  | 13, _, h => exact h
  | 14, _, h => exact h
  | 15, _, h => exact h
  | 16, _, h => exact RowB.below h hb
  | 17, _, h => exact h
  | 18, _, h => exact h
  | 19, _, h => exact RowB.below h hb
  | 20, _, h => exact h
  | 21, _, h => exact RowB.below h hb
  | 22, _, h => exact h
  | 23, _, h => exact RowB.below h hb
  | 24, _, h => exact h
  | 25, _, h => exact RowB.below h hb
  | 26, _, h => exact h
  | 27, _, h => exact h
  | 28, _, h => exact RowB.below h hb
  | 29, _, h => exact h
  | 30, _, h => exact RowB.below h hb
  | 31, _, h => exact h
  | 32, _, h => exact h
  | 33, _, h => exact h
  | 34, _, h => exact RowB.below h hb
  | 35, _, h => exact AllB.below h hb
  | 36, _, h => exact AllB.below h hb
  | i + 37, hi, _ => exact absurd hi (by omega)
/-- A check of every operation. -/
def allOps (ops : Array Oper) (f : Nat → Oper → Bool) : Bool := (List.range ops.size).all fun i => match ops[i]? with
  | some o => f i o
  | none => true
theorem allOps_at {ops : Array Oper} {f : Nat → Oper → Bool} (h : allOps ops f = true) (i : Nat) (o : Oper) (ho : ops[i]? = some o) : f i o = true := by
  have := List.all_eq_true.1 h i (List.mem_range.2 (Array.getElem?_eq_some_iff.1 ho).1)
  rw [ho] at this; exact this
/-- The frame behind the operations. -/
def layAll (d : Nat → Nat) (vals : Nat → Value) (t0 : Array Value) (n : Nat) : Array Value := (List.range n).foldl (fun t j => t.setIfInBounds (d j) (vals j)) t0
theorem layAll_succ (d : Nat → Nat) (vals : Nat → Value) (t0 : Array Value) (n : Nat) : layAll d vals t0 (n + 1) = (layAll d vals t0 n).setIfInBounds (d n) (vals n) := by
  simp [layAll, List.range_succ]
theorem layAll_size (d : Nat → Nat) (vals : Nat → Value) (t0 : Array Value) (n : Nat) : (layAll d vals t0 n).size = t0.size := by
  induction n with
  | zero => rfl
  | succ n ih => rw [layAll_succ]; simp [ih]
theorem layAll_other (d : Nat → Nat) (vals : Nat → Value) (t0 : Array Value) (n t : Nat) (h : ∀ j, j < n → d j ≠ t) : (layAll d vals t0 n)[t]? = t0[t]? := by
  induction n with
  | zero => rfl
  | succ n ih => rw [layAll_succ, Array.getElem?_setIfInBounds_ne (h n (by omega))]; exact ih (fun j hj => h j (by omega))
theorem layAll_at (d : Nat → Nat) (vals : Nat → Value) (t0 : Array Value) (n j : Nat) (hj : j < n) (hd : ∀ i k, i < n → k < n → d i = d k → i = k) (hs : d j < t0.size) : (layAll d vals t0 n)[d j]? = some (vals j) := by
  induction n with
  | zero => omega
  | succ n ih =>
    rw [layAll_succ]
    by_cases e : j = n
    · subst e; rw [Array.getElem?_setIfInBounds_self_of_lt (by rw [layAll_size]; exact hs)]
    · rw [Array.getElem?_setIfInBounds_ne (fun ee => e ((hd n j (by omega) hj ee).symm))]
      exact ih (by omega) (fun i k hi hk => hd i k (by omega) (by omega))
theorem layAll_eq (d : Nat → Nat) (vals : Nat → Value) (arr t0 : Array Value) (n : Nat) (hsz : arr.size = t0.size) (hd : ∀ i k, i < n → k < n → d i = d k → i = k) (hs : ∀ j, j < n → d j < t0.size)
    (ho : ∀ t, (∀ j, j < n → d j ≠ t) → arr[t]? = t0[t]?) (hv : ∀ j, j < n → arr[d j]? = some (vals j)) : arr = layAll d vals t0 n := by
  apply Array.ext_getElem?
  intro t
  by_cases h : ∃ j, j < n ∧ d j = t
  · obtain ⟨j, hj, rfl⟩ := h
    rw [hv j hj, layAll_at d vals t0 n j hj hd (hs j hj)]
  · have h' : ∀ j, j < n → d j ≠ t := fun j hj e => h ⟨j, hj, e⟩
    rw [ho t h', layAll_other d vals t0 n t h']
theorem name_world {P : Program} {C : Code} {Q : Exit → Act → World → Prop} {a : Act} {w : World} (h : ∀ W, W = w → C.wp P Q a W) : C.wp P Q a w := h w rfl
theorem dK_inj (i j : Nat) (hi : i < 37) (hj : j < 37) (h : dK i = dK j) : i = j := by unfold dK at h; split at h <;> split at h <;> omega

set_option maxRecDepth 100000 in
set_option maxHeartbeats 8000000 in
theorem known_any (w : World) (henv : EnvP w) : Calls Tryd.prog 7 #[] w fun e w' => e = .returned (.bool true) ∧ Below w.heap.size w w' := by
  have HENV := Lib.hid henv
  clear henv
  go_enter Tryd.func7, Tryd.ntmps7
  go_wp2_with fail
  refine wp_region_kept dK PrK _ _ (by kernel_rfl) (fun i j hi hj => dK_inj i j hi hj) (fun i hi => ?size) (fun i v w w' hi => PrK_below i v w w' hi) (fun i o ho e he => ?after) (fun i o ho => ?guard) ?step ?fin
  case size => show dK i < 111; have : i < 37 := hi; unfold dK; split <;> omega
  case after =>
    have h := allOps_at (f := fun i o => o.after.all fun e => decide (e.on < i)) (by kernel_rfl) i o ho
    rw [Array.all_eq_true_iff_forall_mem] at h
    exact of_decide_eq_true (h e he)
  case guard =>
    have h := allOps_at (f := fun _ o => o.guard.isNone) (by kernel_rfl) i o ho
    exact Option.isNone_iff_eq_none.1 h
  case step =>
    intro i o a w' ho _ _ hsame hbel haft
    have hp1 : a.tmps[1]? = some (.pointer (some ⟨w.heap.size, 0, none⟩)) := hsame 1 (fun j hj => by unfold dK; split <;> omega)
    have hc1 : w'.heap[w.heap.size]? = some (.cells #[.int .u8 4, .int .i64 3] 44 (0, 0)) := (hbel.block _ (by simp)).trans (World.alloc_heap_new w _)
    match i, ho, haft with
    | 0, ho, haft =>
      obtain rfl := Option.some.inj ho
      exact step_call _ _ _ _ _ _ _
    | 1, ho, haft =>
      obtain rfl := Option.some.inj ho
      exact step_row1 _ _ _ _ _ _ _ _ _ (haft { on := 0, ground := .data } (by simp) rfl)
    | 2, ho, haft =>
      obtain rfl := Option.some.inj ho
      exact step_call _ _ _ _ _ _ _
    | 3, ho, haft =>
      obtain rfl := Option.some.inj ho
      exact step_call _ _ _ _ _ _ _
    | 4, ho, haft =>
      obtain rfl := Option.some.inj ho
      exact step_row2 _ _ _ _ _ _ _ _ _ _ _ _ (haft { on := 2, ground := .data } (by simp) rfl) (haft { on := 3, ground := .data } (by simp) rfl)
    | 5, ho, haft =>
      obtain rfl := Option.some.inj ho
      exact step_call _ _ _ _ _ _ _
    | 6, ho, haft =>
      obtain rfl := Option.some.inj ho
      exact step_call _ _ _ _ _ _ _
    | 7, ho, haft =>
      obtain rfl := Option.some.inj ho
      exact step_row2 _ _ _ _ _ _ _ _ _ _ _ _ (haft { on := 5, ground := .data } (by simp) rfl) (haft { on := 6, ground := .data } (by simp) rfl)
    | 8, ho, haft =>
      obtain rfl := Option.some.inj ho
      exact step_call _ _ _ _ _ _ _
    | 9, ho, haft =>
      obtain rfl := Option.some.inj ho
      exact step_load _ _ _ _ _ _ _ hp1 hc1
    | 10, ho, haft =>
      obtain rfl := Option.some.inj ho
      exact step_row2 _ _ _ _ _ _ _ _ _ _ _ _ (haft { on := 8, ground := .data } (by simp) rfl) (haft { on := 9, ground := .data } (by simp) rfl)
    | 11, ho, haft =>
      obtain rfl := Option.some.inj ho
      exact step_load _ _ _ _ _ _ _ hp1 hc1
    | 12, ho, haft =>
      obtain rfl := Option.some.inj ho
      exact step_row1 _ _ _ _ _ _ _ _ _ (haft { on := 11, ground := .data } (by simp) rfl)
    | 13, ho, haft =>
      obtain rfl := Option.some.inj ho
      exact step_call _ _ _ _ _ _ _
    | 14, ho, haft =>
      obtain rfl := Option.some.inj ho
      exact step_call _ _ _ _ _ _ _
    | 15, ho, haft =>
      obtain rfl := Option.some.inj ho
      exact step_build _ _ _ _ _ _ _ _
    | 16, ho, haft =>
      obtain rfl := Option.some.inj ho
      exact step_row3 _ _ _ _ _ _ _ _ _ _ _ _ _ _ _ (haft { on := 13, ground := .data } (by simp) rfl) (haft { on := 14, ground := .data } (by simp) rfl) (haft { on := 15, ground := .data } (by simp) rfl)
    | 17, ho, haft =>
      obtain rfl := Option.some.inj ho
      exact step_build _ _ _ _ _ _ _ _
    | 18, ho, haft =>
      obtain rfl := Option.some.inj ho
      exact step_build _ _ _ _ _ _ _ _
    | 19, ho, haft =>
      obtain rfl := Option.some.inj ho
      exact step_row2 _ _ _ _ _ _ _ _ _ _ _ _ (haft { on := 17, ground := .data } (by simp) rfl) (haft { on := 18, ground := .data } (by simp) rfl)
    | 20, ho, haft =>
      obtain rfl := Option.some.inj ho
      exact step_build _ _ _ _ _ _ _ _
    | 21, ho, haft =>
      obtain rfl := Option.some.inj ho
      exact step_row1 _ _ _ _ _ _ _ _ _ (haft { on := 20, ground := .data } (by simp) rfl)
    | 22, ho, haft =>
      obtain rfl := Option.some.inj ho
      exact step_build0 _ _ _ _ _ _ _
    | 23, ho, haft =>
      obtain rfl := Option.some.inj ho
      exact step_row1 _ _ _ _ _ _ _ _ _ (haft { on := 22, ground := .data } (by simp) rfl)
    | 24, ho, haft =>
      obtain rfl := Option.some.inj ho
      exact step_build0 _ _ _ _ _ _ _
    | 25, ho, haft =>
      obtain rfl := Option.some.inj ho
      exact step_row1 _ _ _ _ _ _ _ _ _ (haft { on := 24, ground := .data } (by simp) rfl)
    | 26, ho, haft =>
      obtain rfl := Option.some.inj ho
      exact step_load _ _ _ _ _ _ _ hp1 hc1
    | 27, ho, haft =>
      obtain rfl := Option.some.inj ho
      exact step_call _ _ _ _ _ _ _
    | 28, ho, haft =>
      obtain rfl := Option.some.inj ho
      exact step_row2 _ _ _ _ _ _ _ _ _ _ _ _ (haft { on := 26, ground := .data } (by simp) rfl) (haft { on := 27, ground := .data } (by simp) rfl)
    | 29, ho, haft =>
      obtain rfl := Option.some.inj ho
      exact step_build _ _ _ _ _ _ _ _
    | 30, ho, haft =>
      obtain rfl := Option.some.inj ho
      exact step_row1 _ _ _ _ _ _ _ _ _ (haft { on := 29, ground := .data } (by simp) rfl)
    | 31, ho, haft =>
      obtain rfl := Option.some.inj ho
      exact step_call _ _ _ _ _ _ _
    | 32, ho, haft =>
      obtain rfl := Option.some.inj ho
      exact step_load _ _ _ _ _ _ _ hp1 hc1
    | 33, ho, haft =>
      obtain rfl := Option.some.inj ho
      exact step_load _ _ _ _ _ _ _ hp1 hc1
    | 34, ho, haft =>
      obtain rfl := Option.some.inj ho
      exact step_row3 _ _ _ _ _ _ _ _ _ _ _ _ _ _ _ (haft { on := 31, ground := .data } (by simp) rfl) (haft { on := 32, ground := .data } (by simp) rfl) (haft { on := 33, ground := .data } (by simp) rfl)
    | 35, ho, haft =>
      obtain rfl := Option.some.inj ho
      exact step_all _ _ _ _ _ _ _ _ _ _ _ _ _ _ _ _ _ _ _ (haft { on := 1, ground := .data } (by simp) rfl) (haft { on := 4, ground := .data } (by simp) rfl) (haft { on := 7, ground := .data } (by simp) rfl) (haft { on := 10, ground := .data } (by simp) rfl) (haft { on := 12, ground := .data } (by simp) rfl) (haft { on := 16, ground := .data } (by simp) rfl) (haft { on := 19, ground := .data } (by simp) rfl) (haft { on := 21, ground := .data } (by simp) rfl) (haft { on := 23, ground := .data } (by simp) rfl) (haft { on := 25, ground := .data } (by simp) rfl) (haft { on := 28, ground := .data } (by simp) rfl) (haft { on := 30, ground := .data } (by simp) rfl) (haft { on := 34, ground := .data } (by simp) rfl)
    | 36, ho, haft =>
      obtain rfl := Option.some.inj ho
      exact step_assign _ _ AllB _ _ _ _ _ (haft { on := 35, ground := .data } (by simp) rfl)
    | i + 37, ho, _ => exact absurd (Array.getElem?_eq_some_iff.1 ho).1 (by simp)
  case fin =>
    intro a w' hdef hsz hsame hbel hall
    have hch : ∀ j, ∃ v, j < 37 → a.tmps[dK j]? = some v ∧ PrK j v w' := fun j => by
      by_cases hj : j < 37
      · obtain ⟨v, hv⟩ := hall j hj
        exact ⟨v, fun _ => hv⟩
      · exact ⟨undef, fun h => absurd h hj⟩
    obtain ⟨vals, hv⟩ := Classical.axiomOfChoice hch
    have hfr := layAll_eq dK vals a.tmps _ 37 hsz (fun i k hi hk => dK_inj i k hi hk) (fun j hj => (by show dK j < 111; unfold dK; split <;> omega)) hsame (fun j hj => (hv j hj).1)
    have hA : AllB (vals 36) w' := (hv 36 (by omega)).2
    obtain ⟨tm, df⟩ := a
    simp only at hdef hfr
    subst hdef
    have hlit : layAll dK vals (#[.bool false, .pointer (some ⟨w.heap.size, 0, none⟩), undef, undef, undef, undef, undef, undef, .agg #[.int .u8 4, .int .i64 3], undef, undef, undef, undef, undef, undef, undef, undef, undef, undef, undef, undef, undef, undef, undef, undef, undef, undef, undef, undef, undef, undef, undef, undef, undef, undef, undef, undef, undef, undef, undef, undef, undef, undef, undef, undef, undef, undef, undef, undef, undef, undef, undef, undef, undef, undef, undef, undef, undef, undef, undef, undef, undef, undef, undef, undef, undef, undef, undef, undef, undef, undef, undef, undef, undef, undef, undef, undef, undef, undef, undef, undef, undef, undef, undef, undef, undef, undef, undef, undef, undef, undef, undef, undef, undef, undef, undef, undef, undef, undef, undef, undef, undef, undef, undef, undef, undef, undef, undef, undef, undef, undef]) 37 = #[.bool false, .pointer (some ⟨w.heap.size, 0, none⟩), vals 36, undef, undef, undef, undef, undef, .agg #[.int .u8 4, .int .i64 3], vals 0, vals 1, vals 2, vals 3, vals 4, vals 5, vals 6, vals 7, vals 8, vals 9, vals 10, vals 11, vals 12, vals 13, vals 14, vals 15, vals 16, vals 17, vals 18, vals 19, vals 20, vals 21, vals 22, vals 23, vals 24, vals 25, vals 26, vals 27, vals 28, vals 29, vals 30, vals 31, vals 32, vals 33, vals 34, vals 35, undef, undef, undef, undef, undef, undef, undef, undef, undef, undef, undef, undef, undef, undef, undef, undef, undef, undef, undef, undef, undef, undef, undef, undef, undef, undef, undef, undef, undef, undef, undef, undef, undef, undef, undef, undef, undef, undef, undef, undef, undef, undef, undef, undef, undef, undef, undef, undef, undef, undef, undef, undef, undef, undef, undef, undef, undef, undef, undef, undef, undef, undef, undef, undef, undef, undef] := by kernel_rfl
    have hfr2 := hfr.trans hlit
    subst hfr2
    clear hfr hlit hv hch hall hsame hsz
    obtain ⟨b, hs2, hrows⟩ := hA.rows
    have HB1 := Lib.hid (show Below w.heap.size w w' from (((Below.refl _ _).alloc (Nat.le_refl _) _).trans (hbel.mono (by simp))))
    have HROWS := Lib.hid hrows
    rw [hs2]
    clear hA hs2 hrows hbel
    go_wp2_with fail
    go_loopw [3] (fun i wr => ∃ j : Nat, j ≤ 14 ∧ i = .int .i64 j ∧ Below w'.heap.size w' wr) (fun i _ => 14 - (intOf i).toNat)
    case atStart => exact ⟨0, by omega, rfl, Below.refl _ _⟩
    case round =>
      obtain ⟨j, hj, rfl, hb⟩ := hrel
      by_cases hlt : j < 14
      · obtain ⟨A, n, c, k, m, hcell, hgood⟩ := (HROWS.out.below hb) j hlt
        have HG := Lib.hid hgood; have HB := Lib.hid hb
        clear hgood hb
        go_wp2_with fail
        refine (texts_t A n c k m _ (HENV.out.below (below_next HB1.out HB.out)) HG.out).mono ?_; rintro e w2 ⟨rfl, hb2⟩
        have HB2 := Lib.hid (below_next HB.out hb2)
        clear hb2 hcell
        go_wp2_with fail
        obtain ⟨wo, rfl⟩ : ∃ wo : World, wo = wr := ⟨_, rfl⟩
        go_loopw [4] (fun i wr => ∃ j : Nat, j ≤ 14 ∧ i = .int .i64 j ∧ Below w'.heap.size w' wr) (fun i _ => 14 - (intOf i).toNat)
        case atStart => exact ⟨0, by omega, rfl, HB2.out⟩
        case round =>
          obtain ⟨j2, hj2, rfl, hb⟩ := hrel
          have HB3 := Lib.hid hb
          clear hb
          by_cases hlt2 : j2 < 14
          · have hd2 : decide ((j2 : Int) < 14) = true := by simp; omega
            have hp0 : (0 : Int) ≤ (j2 : Int) := by omega
            have hp1 : (j2 : Int) < 14 := by omega
            go_wp2_with fail
            obtain ⟨wo2, rfl⟩ : ∃ wo2 : World, wo2 = wr := ⟨_, rfl⟩
            go_loopw [5] (fun i wr => ∃ t : Nat, t ≤ 4 ∧ i = .int .i64 t ∧ Below w'.heap.size w' wr) (fun i _ => 4 - (intOf i).toNat)
            case atStart => exact ⟨0, by omega, rfl, HB3.out⟩
            case round =>
              obtain ⟨t, ht, rfl, hb⟩ := hrel
              have HB4 := Lib.hid hb
              clear hb
              by_cases hlt3 : t < 4
              · obtain ⟨A1, n1, c1, k1, m1, hc1, hg1⟩ := (HROWS.out.below HB4.out) j hlt
                obtain ⟨A2, n2, c2, k2, m2, hc2, hg2⟩ := (HROWS.out.below HB4.out) j2 hlt2
                have HG1 := Lib.hid hg1; have HG2 := Lib.hid hg2
                have HENV4 := Lib.hid (HENV.out.env.below (below_next HB1.out HB4.out))
                clear hg1 hg2
                have h4 : t = 0 ∨ t = 1 ∨ t = 2 ∨ t = 3 := by omega
                rcases h4 with rfl | rfl | rfl | rfl
                · go_wp2_with fail
                  go_region_held3 (fun w' => w'.cell? ⟨b, j, none⟩ = some (.slice A1 n1 c1) ∧ w'.cell? ⟨b, j2, none⟩ = some (.slice A2 n2 c2))
                    (first
                      | go_keep
                      | (go_split_ands
                         exact ⟨cell_later hbx hc1, cell_later hbx hc2⟩)
                      | (go_split_ands
                         exact ⟨cell_later hby (cell_later hbx hc1), cell_later hby (cell_later hbx hc2)⟩))
                    (first
                      | (go_at_call 4; refine (tells_t A1 A2 n1 c1 n2 c2 k1 m1 k2 m2 _ _ _ (HENV4.out.below ((Below.refl _ _).drew)) (HG1.out.below ((Below.refl _ _).drew)) (HG2.out.below ((Below.refl _ _).drew))).mono ?_; rintro e wx ⟨rfl, hbx⟩)
                      | (go_at_call 3; refine (cut_i A1 A2 n1 c1 n2 c2 _ _ k1 m1 k2 m2 _ (HENV4.out.below (below_next ((Below.refl _ _).drew) hbx)) (HG1.out.below (below_next ((Below.refl _ _).drew) hbx)) (HG2.out.below (below_next ((Below.refl _ _).drew) hbx)) ⟨by decide, by decide⟩ ⟨by decide, by decide⟩).mono ?_; rintro e wy ⟨rfl, hby⟩))
                  go_wp2_with fail
                  go_roundw
                  case rel => exact ⟨1, by omega, rfl, HB4.out.trans ((below_next (below_next ((Below.refl _ _).drew) hbx) hby).mono HB4.out.size)⟩
                  case measure => simp [intOf]
                · go_wp2_with fail
                  go_region_held3 (fun w' => w'.cell? ⟨b, j, none⟩ = some (.slice A1 n1 c1) ∧ w'.cell? ⟨b, j2, none⟩ = some (.slice A2 n2 c2))
                    (first
                      | go_keep
                      | (go_split_ands
                         exact ⟨cell_later hbx hc1, cell_later hbx hc2⟩)
                      | (go_split_ands
                         exact ⟨cell_later hby (cell_later hbx hc1), cell_later hby (cell_later hbx hc2)⟩))
                    (first
                      | (go_at_call 4; refine (tells_t A1 A2 n1 c1 n2 c2 k1 m1 k2 m2 _ _ _ (HENV4.out.below ((Below.refl _ _).drew)) (HG1.out.below ((Below.refl _ _).drew)) (HG2.out.below ((Below.refl _ _).drew))).mono ?_; rintro e wx ⟨rfl, hbx⟩)
                      | (go_at_call 3; refine (cut_i A1 A2 n1 c1 n2 c2 _ _ k1 m1 k2 m2 _ (HENV4.out.below (below_next ((Below.refl _ _).drew) hbx)) (HG1.out.below (below_next ((Below.refl _ _).drew) hbx)) (HG2.out.below (below_next ((Below.refl _ _).drew) hbx)) ⟨by decide, by decide⟩ ⟨by decide, by decide⟩).mono ?_; rintro e wy ⟨rfl, hby⟩))
                  go_wp2_with fail
                  go_roundw
                  case rel => exact ⟨2, by omega, rfl, HB4.out.trans ((below_next (below_next ((Below.refl _ _).drew) hbx) hby).mono HB4.out.size)⟩
                  case measure => simp [intOf]
                · go_wp2_with fail
                  go_region_held3 (fun w' => w'.cell? ⟨b, j, none⟩ = some (.slice A1 n1 c1) ∧ w'.cell? ⟨b, j2, none⟩ = some (.slice A2 n2 c2))
                    (first
                      | go_keep
                      | (go_split_ands
                         exact ⟨cell_later hbx hc1, cell_later hbx hc2⟩)
                      | (go_split_ands
                         exact ⟨cell_later hby (cell_later hbx hc1), cell_later hby (cell_later hbx hc2)⟩))
                    (first
                      | (go_at_call 4; refine (tells_t A1 A2 n1 c1 n2 c2 k1 m1 k2 m2 _ _ _ (HENV4.out.below ((Below.refl _ _).drew)) (HG1.out.below ((Below.refl _ _).drew)) (HG2.out.below ((Below.refl _ _).drew))).mono ?_; rintro e wx ⟨rfl, hbx⟩)
                      | (go_at_call 3; refine (cut_i A1 A2 n1 c1 n2 c2 _ _ k1 m1 k2 m2 _ (HENV4.out.below (below_next ((Below.refl _ _).drew) hbx)) (HG1.out.below (below_next ((Below.refl _ _).drew) hbx)) (HG2.out.below (below_next ((Below.refl _ _).drew) hbx)) ⟨by decide, by decide⟩ ⟨by decide, by decide⟩).mono ?_; rintro e wy ⟨rfl, hby⟩))
                  go_wp2_with fail
                  go_roundw
                  case rel => exact ⟨3, by omega, rfl, HB4.out.trans ((below_next (below_next ((Below.refl _ _).drew) hbx) hby).mono HB4.out.size)⟩
                  case measure => simp [intOf]
                · go_wp2_with fail
                  go_region_held3 (fun w' => w'.cell? ⟨b, j, none⟩ = some (.slice A1 n1 c1) ∧ w'.cell? ⟨b, j2, none⟩ = some (.slice A2 n2 c2))
                    (first
                      | go_keep
                      | (go_split_ands
                         exact ⟨cell_later hbx hc1, cell_later hbx hc2⟩)
                      | (go_split_ands
                         exact ⟨cell_later hby (cell_later hbx hc1), cell_later hby (cell_later hbx hc2)⟩))
                    (first
                      | (go_at_call 4; refine (tells_t A1 A2 n1 c1 n2 c2 k1 m1 k2 m2 _ _ _ (HENV4.out.below ((Below.refl _ _).drew)) (HG1.out.below ((Below.refl _ _).drew)) (HG2.out.below ((Below.refl _ _).drew))).mono ?_; rintro e wx ⟨rfl, hbx⟩)
                      | (go_at_call 3; refine (cut_i A1 A2 n1 c1 n2 c2 _ _ k1 m1 k2 m2 _ (HENV4.out.below (below_next ((Below.refl _ _).drew) hbx)) (HG1.out.below (below_next ((Below.refl _ _).drew) hbx)) (HG2.out.below (below_next ((Below.refl _ _).drew) hbx)) ⟨by decide, by decide⟩ ⟨by decide, by decide⟩).mono ?_; rintro e wy ⟨rfl, hby⟩))
                  go_wp2_with fail
                  go_roundw
                  case rel => exact ⟨4, by omega, rfl, HB4.out.trans ((below_next (below_next ((Below.refl _ _).drew) hbx) hby).mono HB4.out.size)⟩
                  case measure => simp [intOf]
              · obtain rfl : t = 4 := by omega
                go_wp2_with fail
                exact ⟨⟨j2 + 1, by omega, by go_num, HB4.out⟩, by simp [intOf]; omega⟩
          · obtain rfl : j2 = 14 := by omega
            go_wp2_with fail
            exact ⟨⟨j + 1, by omega, by go_num, HB3.out⟩, by simp [intOf]; omega⟩
      · have hd1 : decide ((j : Int) < 14) = false := by simp; omega
        have HBX := Lib.hid (below_next HB1.out hb)
        clear hb
        go_wp2_with fail
        refine name_world ?_
        intro Wz hWz
        have hbz : Below wr.heap.size wr Wz := by rw [hWz]; exact (Below.refl _ _).alloc (Nat.le_refl _) _
        have hstr : ∀ i, i < 19 → ∃ s : ByteArray, Wz.cell? ⟨wr.heap.size, i, none⟩ = some (.string s) ∧ s.size ≤ 2000 := by
          intro i hi
          rw [hWz]
          match i, hi with
          | 0, _ => exact ⟨_, by rw [World.cell?_alloc_new]; rfl, by decide⟩
          | 1, _ => exact ⟨_, by rw [World.cell?_alloc_new]; rfl, by decide⟩
          | 2, _ => exact ⟨_, by rw [World.cell?_alloc_new]; rfl, by decide⟩
          | 3, _ => exact ⟨_, by rw [World.cell?_alloc_new]; rfl, by decide⟩
          | 4, _ => exact ⟨_, by rw [World.cell?_alloc_new]; rfl, by decide⟩
          | 5, _ => exact ⟨_, by rw [World.cell?_alloc_new]; rfl, by decide⟩
          | 6, _ => exact ⟨_, by rw [World.cell?_alloc_new]; rfl, by decide⟩
          | 7, _ => exact ⟨_, by rw [World.cell?_alloc_new]; rfl, by decide⟩
          | 8, _ => exact ⟨_, by rw [World.cell?_alloc_new]; rfl, by decide⟩
          | 9, _ => exact ⟨_, by rw [World.cell?_alloc_new]; rfl, by decide⟩
          | 10, _ => exact ⟨_, by rw [World.cell?_alloc_new]; rfl, by decide⟩
          | 11, _ => exact ⟨_, by rw [World.cell?_alloc_new]; rfl, by decide⟩
          | 12, _ => exact ⟨_, by rw [World.cell?_alloc_new]; rfl, by decide⟩
          | 13, _ => exact ⟨_, by rw [World.cell?_alloc_new]; rfl, by decide⟩
          | 14, _ => exact ⟨_, by rw [World.cell?_alloc_new]; rfl, by decide⟩
          | 15, _ => exact ⟨_, by rw [World.cell?_alloc_new]; rfl, by decide⟩
          | 16, _ => exact ⟨_, by rw [World.cell?_alloc_new]; rfl, by decide⟩
          | 17, _ => exact ⟨_, by rw [World.cell?_alloc_new]; rfl, by decide⟩
          | 18, _ => exact ⟨_, by rw [World.cell?_alloc_new]; rfl, by decide⟩
          | i + 19, hi => exact absurd hi (by omega)
        have HSTR := Lib.hid hstr; have HBZ := Lib.hid (below_next HBX.out hbz)
        clear hWz hbz hstr
        go_loopw [102] (fun i wq => ∃ j : Nat, j ≤ 19 ∧ i = .int .i64 j ∧ Below Wz.heap.size Wz wq) (fun i _ => 19 - (intOf i).toNat)
        case atStart => exact ⟨0, by omega, rfl, Below.refl _ _⟩
        case round =>
          obtain ⟨q, hq, rfl, hb⟩ := hrel
          by_cases hlt : q < 19
          · obtain ⟨s, hc, hs⟩ := HSTR.out q hlt
            have hc' := cell_later hb hc
            have HB5 := Lib.hid hb
            clear hb hc
            go_wp2_with fail
            refine (parses_t s _ (HENV.out.below (below_next HBZ.out HB5.out)) hs).mono ?_; rintro e w2 ⟨rfl, hb2⟩
            go_wp2_with fail
            exact ⟨⟨q + 1, by omega, by go_num, below_next HB5.out hb2⟩, by simp [intOf]; omega⟩
          · obtain rfl : q = 19 := by omega
            have HB6 := Lib.hid (below_next HBZ.out hb)
            clear hb
            go_wp2_with fail
            refine (works_any _ (HENV.out.env.below HB6.out)).mono ?_; rintro e w2 ⟨rfl, hb2⟩
            go_wp2_with fail
            go_ret
            exact ⟨rfl, below_next HB6.out hb2⟩
end Go.Proofs.YtadcegfdojocmaaDoor
