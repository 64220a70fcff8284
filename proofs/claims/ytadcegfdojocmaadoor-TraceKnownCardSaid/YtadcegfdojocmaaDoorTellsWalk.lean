/- The walk over TraceTells: whatever the two traces and the two bools, it answers true. By an AI agent. -/
import Derived.Test.YtadcegfdojocmaaDoorWalkG
import Derived.Test.YtadcegfdojocmaaDoorWalkH
import Derived.Deep.DeepCutAuto
import Derived.Deep.CutBlock
import Derived.Laws.AppendOwnNone
namespace Go.Proofs.YtadcegfdojocmaaDoor
open Go.RowKit

/-- The cells of n events. -/
def evCells (n : Nat) (k m : Nat → Int) : List Value := (List.range n).flatMap fun i => [.int .u8 (k i), .int .i64 (m i)]
theorem evCells_succ (n : Nat) (k m : Nat → Int) : evCells (n + 1) k m = evCells n k m ++ [.int .u8 (k n), .int .i64 (m n)] := by
  simp [evCells, List.range_succ, List.flatMap_append]
theorem evCells_len (n : Nat) (k m : Nat → Int) : (evCells n k m).length = n * 2 := by
  induction n with
  | zero => rfl
  | succ n ih => rw [evCells_succ, List.length_append, ih]; simp; omega
theorem evCells_at (n : Nat) (k m : Nat → Int) (i : Nat) (hi : i < n) : (evCells n k m)[i * 2]? = some (.int .u8 (k i)) ∧ (evCells n k m)[i * 2 + 1]? = some (.int .i64 (m i)) := by
  induction n with
  | zero => omega
  | succ n ih =>
    rw [evCells_succ]
    by_cases h : i < n
    · rw [List.getElem?_append_left (by rw [evCells_len]; omega), List.getElem?_append_left (by rw [evCells_len]; omega)]
      exact ih h
    · obtain rfl : i = n := by omega
      rw [List.getElem?_append_right (by rw [evCells_len]; omega), List.getElem?_append_right (by rw [evCells_len]; omega), evCells_len]
      have e1 : i * 2 - i * 2 = 0 := by omega
      have e2 : i * 2 + 1 - i * 2 = 1 := by omega
      rw [e1, e2]
      exact ⟨rfl, rfl⟩

/-- What is read at an address is what is owned at a row's head. -/
theorem EvS.news {w : World} {b o n : Nat} {k m : Nat → Int} (h1 : ∀ i, i < n → w.cell? ⟨b, o + i * 2, none⟩ = some (.int .u8 (k i))) (h2 : ∀ i, i < n → w.cell? ⟨b, o + i * 2 + 1, none⟩ = some (.int .i64 (m i))) :
    ∀ j u, (evCells n k m)[j]? = some u → w.cell? ((⟨b, o, none⟩ : Addr).add j) = some u := by
  intro j u hj
  have hl := (List.getElem?_eq_some_iff.1 hj).1
  rw [evCells_len] at hl
  have hadd : ((⟨b, o, none⟩ : Addr).add j) = ⟨b, o + j, none⟩ := by
    unfold Addr.add; split
    · rename_i h; subst h; rfl
    · rfl
  rw [hadd]
  rcases Nat.mod_two_eq_zero_or_one j with hm | hm
  · have e : j = (j / 2) * 2 := by omega
    have := evCells_at n k m (j / 2) (by omega)
    rw [e] at hj ⊢
    rw [this.1] at hj
    rw [← hj]
    exact h1 (j / 2) (by omega)
  · have e : j = (j / 2) * 2 + 1 := by omega
    have := evCells_at n k m (j / 2) (by omega)
    rw [e] at hj ⊢
    rw [this.2] at hj
    rw [← hj, ← Nat.add_assoc]
    exact h2 (j / 2) (by omega)

theorem EvS.of_own {w : World} {base n c : Nat} {A : Option Addr} {k m : Nat → Int} (h : w.ownsRow base 44 2 (.slice A n c) n (evCells n k m)) : EvS w A n k m := by
  by_cases h0 : n = 0
  · exact Or.inl h0
  · obtain ⟨g, cap, hv, _, hlt⟩ := h.form (by omega)
    injection hv with hA hn hc
    subst hA hc
    refine Or.inr ⟨g, 0, rfl, fun i hi => ?_, fun i hi => ?_⟩
    · rw [Nat.zero_add, h.cellAt _ (by omega)]; exact (evCells_at n k m i hi).1
    · rw [Nat.zero_add, h.cellAt _ (by omega)]; exact (evCells_at n k m i hi).2

theorem own_form {w : World} {base e size n : Nat} {v : Value} {xs : List Value} (h : w.ownsRow base e size v n xs) : ∃ A c, v = .slice A n c := by
  rcases h.2 with ⟨rfl, rfl⟩ | ⟨g, cap, _, rfl, _⟩
  · exact ⟨_, _, rfl⟩
  · exact ⟨_, _, rfl⟩

theorem info44 : (Tryd.prog.info? 44).map (fun i => (i.zero, i.size, i.bytes)) = some (some (.agg #[.int .u8 0, .int .i64 0]), 2, 16) := by kernel_rfl

/-- 'append(x, a...)', x nil: a row of its own that holds a's events. -/
theorem wpList_copy_ev {w : World} {ops : Array Oper} {rest : List Oper} {o : Oper} {a : Act} {Q : Exit → Act → World → Prop} (hgd : o.guard = none) (s x : Operand)
    (ho : o.op = .call { callee := .builtin .append, args := #[s, x], argTypes := #[22, 22] }) (hs : a.eval s = .slice none 0 0)
    (A : Option Addr) (n c : Nat) (k m : Nat → Int) (hx : a.eval x = .slice A n c) (hn : n ≤ 1000000) (hnil : A = none → c = 0) (hev : EvS w A n k m)
    (h : ∀ A' c' w', EvS w' A' n k m → Below w.heap.size w w' → wpList Tryd.prog ops Q rest (a.put o.dst (.slice A' n c')) w') : wpList Tryd.prog ops Q (o :: rest) a w := by
  obtain ⟨i0, hi0, hz0, hz1, hz2⟩ := info_parts info44
  cases A with
  | none =>
    have h0 : n = 0 := by
      rcases hev with h | ⟨b, o, e, _⟩
      · exact h
      · cases e
    subst h0
    have hc := hnil rfl
    subst hc
    exact wpList_append_own_none hgd s x 22 ho w.heap.size 44 i0 2 Tryd.underlying22 hi0 (.slice none 0 0) 0 [] hs (World.ownsRow_nil _ _ _ _) hx (h none 0 w (Or.inl rfl) (Below.refl _ _))
  | some ad =>
    have hnews : ∀ j u, (evCells n k m)[j]? = some u → w.cell? (ad.add j) = some u := by
      rcases hev with rfl | ⟨b, o, e, h1, h2⟩
      · intro j u hj; simp [evCells] at hj
      · cases e; exact EvS.news h1 h2
    refine wpList_append_own w hgd s x 22 ho w.heap.size 44 i0 _ 2 16 Tryd.underlying22 hi0 hz0 hz1 hz2 rfl (by decide) (.slice none 0 0) 0 [] hs (World.ownsRow_nil _ _ _ _) ad n c (evCells n k m) hx (evCells_len n k m) hnews ?_ (by unfold maxLen; omega) (by omega) (Nat.le_refl _) ?_
    · intro u hu
      obtain ⟨i, _, hi⟩ := List.mem_flatMap.1 hu
      simp at hi
      rcases hi with rfl | rfl <;> rfl
    · intro v' w' hown hgrow _
      rw [Nat.zero_add, List.nil_append] at hown
      obtain ⟨A', c', rfl⟩ := own_form hown
      exact h A' c' w' (EvS.of_own hown) ((Below.refl _ _).grown hgrow (Nat.le_refl _) (fun k e => by cases e))

theorem sam_self (n : Nat) (k m : Nat → Int) : sam n k m n k m = true := by simp [sam, evEq]
theorem same_v (a1 a2 : Option Addr) (n1 n2 c1 c2 : Nat) (k1 m1 k2 m2 : Nat → Int) (v : Bool) (w : World) (hn1 : n1 ≤ 1000000) (hn2 : n2 ≤ 1000000) (h1 : EvS w a1 n1 k1 m1) (h2 : EvS w a2 n2 k2 m2) (hv : sam n1 k1 m1 n2 k2 m2 = v) :
    Calls Tryd.prog 10 #[.slice a1 n1 c1, .slice a2 n2 c2] w fun e w' => e = .returned (.bool v) ∧ Below w.heap.size w w' := hv ▸ same_any a1 a2 n1 n2 c1 c2 k1 m1 k2 m2 w hn1 hn2 h1 h2
theorem agree_v (a a' : Option Addr) (n c n' c' : Nat) (k m k' m' : Nat → Int) (en ov v : Bool) (w : World) (hn : n ≤ 1000000) (hc : n ≤ c) (hn' : n' ≤ 1000000) (hc' : n' ≤ c') (h : EvS w a n k m) (h' : EvS w a' n' k' m')
    (hv : agr n k m en n' k' m' ov = v) :
    Calls Tryd.prog 11 #[.slice a n c, .bool en, .slice a' n' c', .bool ov] w fun e w' => e = .returned (.bool v) ∧ Below w.heap.size w w' := hv ▸ agree_any a a' n c n' c' k m k' m' en ov w hn hc hn' hc' h h'

set_option maxRecDepth 100000 in
set_option maxHeartbeats 8000000 in
theorem tells_small (a b : Option Addr) (na ca nb cb : Nat) (en ov : Bool) (ka ma kb mb : Nat → Int) (w : World) (henv : Env w) (hna : na ≤ 200) (hnb : nb ≤ 200) (hca : na ≤ ca) (hcb : nb ≤ cb)
    (hza : a = none → ca = 0) (hzb : b = none → cb = 0) (hk : ∀ i, i < na → 0 ≤ ka i) (ha : EvS w a na ka ma) (hb : EvS w b nb kb mb) :
    Calls Tryd.prog 4 #[.slice a na ca, .slice b nb cb, .bool en, .bool ov] w fun e w' => e = .returned (.bool true) ∧ Below w.heap.size w w' := by
  have HA := Lib.hid ha; have HB := Lib.hid hb; have HENV := Lib.hid henv; have HK := Lib.hid hk; have HZA := Lib.hid hza; have HZB := Lib.hid hzb
  have g1 : ¬ (200 : Int) < na := by omega
  have g2 : ¬ (200 : Int) < nb := by omega
  clear ha hb henv hk hza hzb
  go_enter Tryd.func4, Tryd.ntmps4
  go_upto_region 4 with fail
  go_cut [9] (fun s wx => ∃ A c, s = .slice A na c ∧ EvS wx A na ka ma ∧ Below w.heap.size w wx)
  case first =>
    go_wp2_with (at_builtin; refine wpList_copy_ev rfl _ _ rfl rfl a na ca ka ma rfl (by omega) HZA.out HA.out ?_; intro A' c' w1 hev hbl)
    go_meet
    exact ⟨A', c', rfl, hev, hbl⟩
  case rest =>
    obtain ⟨X, cx, rfl, hX, hbx⟩ := hcut
    have HX := Lib.hid hX; clear hX
    have HBX := Lib.hid (HB.out.below hbx)
    go_upto_region 5 with fail
    go_cut [10] (fun s wx => ∃ A c, s = .slice A nb c ∧ EvS wx A nb kb mb ∧ EvS wx X na ka ma ∧ Below w.heap.size w wx)
    case first =>
      go_wp2_with (at_builtin; refine wpList_copy_ev rfl _ _ rfl rfl b nb cb kb mb rfl (by omega) HZB.out HBX.out ?_; intro A' c' w1 hev hbl)
      go_meet
      exact ⟨A', c', rfl, hev, HX.out.below hbl, below_next hbx hbl⟩
    case rest =>
      obtain ⟨Y, cy, rfl, hY, hX2, hbc⟩ := hcut
      obtain ⟨wo, rfl⟩ : ∃ wo : World, wo = wc := ⟨_, rfl⟩
      have HX := Lib.hid hX2; have HY := Lib.hid hY; clear hX2 hY
      have HA1 := Lib.hid (HA.out.below hbc); have HB1 := Lib.hid (HB.out.below hbc)
      go_wp2_with fail
      refine (right_v a na ca ka ma _ _ (by omega) HA1.out rfl).mono ?_; rintro e w1 ⟨rfl, hb1⟩
      go_wp2_with fail
      refine (rright_any a na ca ka ma _ (by omega) HK.out (HA1.out.below hb1)).mono ?_; rintro e w1' ⟨rfl, rfl⟩
      go_wp2_with fail
      refine (ended_v a na ca ka ma _ _ (by omega) (HA1.out.below hb1) rfl).mono ?_; rintro e w2 ⟨rfl, hb2⟩
      go_wp2_with fail
      refine (rended_any a na ca ka ma _ (by omega) ((HA1.out.below hb1).below hb2)).mono ?_; rintro e w2' ⟨rfl, rfl⟩
      go_wp2_with fail
      refine (begins_v a b na nb ca cb ka ma kb mb _ _ (by omega) (by omega) hca ((HA1.out.below hb1).below hb2) ((HB1.out.below hb1).below hb2) rfl).mono ?_; rintro e w3 ⟨rfl, hb3⟩
      go_wp2_with fail
      refine (rbegins_v a b na nb ca cb ka ma kb mb _ _ (by omega) (by omega) (((HA1.out.below hb1).below hb2).below hb3) (((HB1.out.below hb1).below hb2).below hb3) rfl).mono ?_; rintro e w4 ⟨rfl, hb4⟩
      go_wp2_with fail
      refine (apart_any a b na nb ca cb ka ma kb mb _ (by omega) (by omega) ((((HA1.out.below hb1).below hb2).below hb3).below hb4) ((((HB1.out.below hb1).below hb2).below hb3).below hb4)).mono ?_; rintro e w5 ⟨rfl, hb5⟩
      go_wp2_with fail
      refine (rapart_any a b na nb ca cb ka ma kb mb _ (by omega) (by omega) (((((HA1.out.below hb1).below hb2).below hb3).below hb4).below hb5) (((((HB1.out.below hb1).below hb2).below hb3).below hb4).below hb5)).mono ?_; rintro e w6 ⟨rfl, hb6⟩
      go_wp2_with fail
      refine (reads_any a na ca ka ma _ (by omega) ((((((HA1.out.below hb1).below hb2).below hb3).below hb4).below hb5).below hb6)).mono ?_; rintro e w7 ⟨L, rfl, hL, hb7⟩
      obtain ⟨AL, cL, rfl⟩ := own_form hL
      have HL := Lib.hid hL; clear hL
      go_wp2_with fail
      refine (rreads_any a na ca ka ma _ (by omega) (((((((HA1.out.below hb1).below hb2).below hb3).below hb4).below hb5).below hb6).below hb7)).mono ?_; rintro e w8 ⟨M, rfl, hM, hb8⟩
      obtain ⟨AM, cM, rfl⟩ := own_form hM
      have HM := Lib.hid hM; clear hM
      have hcnt := rds_le ka ma na
      have HR : Hid (rds ka ma na = rds ka ma na) := Lib.hid rfl
      generalize hR : rds ka ma na = R at HL HM HR hcnt
      clear hR HR
      go_upto_block 0 with fail
      have hbB : Below wo.heap.size wo w8 := below_next (below_next (below_next (below_next (below_next (below_next (below_next (below_next (Below.refl _ _) hb1) hb2) hb3) hb4) hb5) hb6) hb7) hb8
      have h68 : wo.heap.size ≤ w6.heap.size := (below_next (below_next (below_next (below_next (below_next (below_next (Below.refl _ _) hb1) hb2) hb3) hb4) hb5) hb6).size
      have HL8 := Lib.hid (own_below HL.out hb8)
      go_cut [13] (fun _ wx => Below wo.heap.size wo wx)
      case first =>
        by_cases h0 : R.length = 0
        · obtain rfl : R = [] := List.eq_nil_of_length_eq_zero h0
          go_wp2_with fail
          refine wp_loop_rounds 1 ?_
          rw [rounds_succ]
          go_wp2_with fail
          go_meet
          exact hbB
        · obtain ⟨g, cap, hv, _, hlt⟩ := HL.out.form (by omega)
          injection hv with hA hn hc
          subst hA hc
          obtain ⟨g', cap', hv', hge, hlt'⟩ := HM.out.form (by omega)
          injection hv' with hA' hn' hc'
          subst hA' hc'
          have hgg : g ≠ g' := by omega
          clear hn hn'
          go_wp2_with fail
          go_loopw [13] (fun i wr => ∃ (j : Nat) (R' : List Int), j ≤ R.length ∧ i = .int .i64 j ∧ Below wo.heap.size wo wr ∧ wr.ownsRow w6.heap.size 2 1 (.slice (some ⟨g, 0, none⟩) R.length cL) R.length (i64s R') ∧
              wr.ownsRow w7.heap.size 2 1 (.slice (some ⟨g', 0, none⟩) R.length cM) R.length (i64s R) ∧ ∀ x, j ≤ x → R'[x]? = R[x]?) (fun i _ => R.length - (intOf i).toNat)
          case atStart => exact ⟨0, R, Nat.zero_le _, rfl, hbB, HL8.out, HM.out, fun _ _ => rfl⟩
          case round =>
            obtain ⟨j, R', hj, rfl, hbr, hl, hm, hall⟩ := hrel
            by_cases hlt : j < R.length
            · have hr : R[j]? = some R[j] := List.getElem?_eq_getElem hlt
              generalize R[j] = r at hr
              have e1 : wr.cell? ⟨g, j, none⟩ = some (.int .i64 r) := by rw [hl.cellAt j (by omega), i64s, List.getElem?_map, hall j (Nat.le_refl _), hr]; rfl
              have e2 : wr.cell? ⟨g', j, none⟩ = some (.int .i64 r) := by rw [hm.cellAt j (by omega), i64s, List.getElem?_map, hr]; rfl
              have e3 := hl.frozenAt j
              have HLL := Lib.hid hl; have HMM := Lib.hid hm; have HALL := Lib.hid hall; have HRR := Lib.hid hr
              clear hl hm hall hr
              go_wp2_with fail
              go_quiet (fail)
              go_wp2_with fail
              go_roundw
              case rel =>
                have hg6 := (HLL.out.lt g rfl).1
                have hst := World.ownsRow.stored (w := wr.drewN nq) HLL.out j (.int .i64 (wrap64 (r + 1)))
                have hmk := World.ownsRow.kept (w := wr.drewN nq) HMM.out hst.2 (Or.inr (by simp only [Value.ownBlock]; intro e; injection e with e; exact hgg e.symm))
                refine ⟨j + 1, R'.set j (wrap64 (r + 1)), by omega, by go_num, (hbr.trans ((below_drewN wr nq).mono hbr.size)).setCell (p := ⟨g, j, none⟩) (show wo.heap.size ≤ g by omega) _, ?_, hmk, fun x hx => ?_⟩
                · have e : i64s (R'.set j (wrap64 (r + 1))) = (i64s R').set j (.int .i64 (wrap64 (r + 1))) := by simp [i64s, List.map_set]
                  rw [e]; exact hst.1
                · rw [List.getElem?_set_ne (by omega)]; exact HALL.out x (by omega)
              case measure => simp [intOf]; omega
            · go_wp2_with fail
              go_meet
              exact hbr
      case rest =>
        have hbD : Below wo.heap.size wo wc := hcut
        clear hcut
        have HA2 := Lib.hid (HA1.out.below hbD); have HB2 := Lib.hid (HB1.out.below hbD)
        have HX2 := Lib.hid (HX.out.below hbD); have HY2 := Lib.hid (HY.out.below hbD)
        have hbE := below_next hbc hbD
        have HENV2 := Lib.hid (HENV.out.below hbE)
        go_wp2_with fail
        refine (follows_v a b na ca nb cb ka ma kb mb _ _ (by omega) hca (by omega) hcb HA2.out HB2.out rfl).mono ?_; rintro e v1 ⟨rfl, hb1⟩
        go_wp2_with fail
        refine (rfollows_any a b na ca nb cb ka ma kb mb _ (by omega) hca (by omega) (HA2.out.below hb1) (HB2.out.below hb1)).mono ?_; rintro e v2 ⟨rfl, hb2⟩
        go_wp2_with fail
        refine (agree_v a b na ca nb cb ka ma kb mb en ov _ _ (by omega) hca (by omega) hcb ((HA2.out.below hb1).below hb2) ((HB2.out.below hb1).below hb2) rfl).mono ?_; rintro e v3 ⟨rfl, hb3⟩
        go_wp2_with fail
        refine (ragree_any a b na ca nb cb ka ma kb mb en ov _ (by omega) hca (by omega) (((HA2.out.below hb1).below hb2).below hb3) (((HB2.out.below hb1).below hb2).below hb3)).mono ?_; rintro e v4 ⟨rfl, hb4⟩
        go_wp2_with fail
        refine (same_v a X na na ca cx ka ma ka ma true _ (by omega) (by omega) ((((HA2.out.below hb1).below hb2).below hb3).below hb4) ((((HX2.out.below hb1).below hb2).below hb3).below hb4) (sam_self na ka ma)).mono ?_; rintro e v5 ⟨rfl, hb5⟩
        go_wp2_with fail
        refine (same_v b Y nb nb cb cy kb mb kb mb true _ (by omega) (by omega) (((((HB2.out.below hb1).below hb2).below hb3).below hb4).below hb5) (((((HY2.out.below hb1).below hb2).below hb3).below hb4).below hb5) (sam_self nb kb mb)).mono ?_; rintro e v6 ⟨rfl, hb6⟩
        go_wp2_with fail
        refine (works_any _ ((((((HENV2.out.below hb1).below hb2).below hb3).below hb4).below hb5).below hb6)).mono ?_; rintro e v7 ⟨rfl, hb7⟩
        go_wp2_with fail
        go_ret
        exact ⟨rfl, below_next (below_next (below_next (below_next (below_next (below_next (below_next hbE hb1) hb2) hb3) hb4) hb5) hb6) hb7⟩

set_option maxRecDepth 100000 in
set_option maxHeartbeats 1000000 in
theorem tells_big (a b : Option Addr) (na ca nb cb : Nat) (en ov : Bool) (w : World) (henv : Env w) (h : 200 < na ∨ 200 < nb) (hm : na ≤ 9223372036854775807) (hm' : nb ≤ 9223372036854775807) :
    Calls Tryd.prog 4 #[.slice a na ca, .slice b nb cb, .bool en, .bool ov] w fun e w' => e = .returned (.bool true) ∧ Below w.heap.size w w' := by
  have HENV := Lib.hid henv; clear henv
  by_cases h1 : 200 < na
  · have g1 : (200 : Int) < na := by omega
    clear h
    go_enter Tryd.func4, Tryd.ntmps4
    go_wp2_with fail
    refine (works_any _ HENV.out).mono ?_; rintro e w1 ⟨rfl, hb1⟩
    go_wp2_with fail
    go_ret
    exact ⟨rfl, hb1⟩
  · have g1 : ¬ (200 : Int) < na := by omega
    have g2 : (200 : Int) < nb := by omega
    clear h
    go_enter Tryd.func4, Tryd.ntmps4
    go_wp2_with fail
    refine (works_any _ HENV.out).mono ?_; rintro e w1 ⟨rfl, hb1⟩
    go_wp2_with fail
    go_ret
    exact ⟨rfl, hb1⟩
end Go.Proofs.YtadcegfdojocmaaDoor
