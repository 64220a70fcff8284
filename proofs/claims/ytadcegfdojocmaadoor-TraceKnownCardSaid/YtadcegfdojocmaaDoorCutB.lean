/- The walk over TraceCut: whatever the two traces and the two numbers, it answers true. By an AI agent. -/
import Derived.Test.YtadcegfdojocmaaDoorWalkG
import Derived.Deep.DeepCutAuto
namespace Go.Proofs.YtadcegfdojocmaaDoor
open Go.RowKit




/-! The plain law -/
theorem evEq_iff {n : Nat} {k1 m1 k2 m2 : Nat → Int} : evEq n k1 m1 k2 m2 = true ↔ ∀ i, i < n → k1 i = k2 i ∧ m1 i = m2 i := by simp [evEq]
theorem beg_iff {n1 n2 : Nat} {k1 m1 k2 m2 : Nat → Int} : beg n1 k1 m1 n2 k2 m2 = true ↔ n2 ≤ n1 ∧ ∀ i, i < n2 → k1 i = k2 i ∧ m1 i = m2 i := by simp [beg, evEq]
theorem fd_neg {n : Nat} {k1 m1 k2 m2 : Nat → Int} : (decide (fd n k1 m1 k2 m2 < 0)) = evEq n k1 m1 k2 m2 := by
  by_cases h : ∀ j, j < n → k1 j = k2 j ∧ m1 j = m2 j
  · rw [fd_none h, evEq_iff.2 h]; rfl
  · obtain ⟨p, hp, hx, hf⟩ := first_not n (fun i => k1 i = k2 i ∧ m1 i = m2 i) (Classical.byContradiction fun hh => h (fun i hi => Classical.byContradiction fun hq => hh ⟨i, hi, hq⟩))
    rw [fd_at hf hp hx]
    have : evEq n k1 m1 k2 m2 = false := by simp only [evEq, decide_eq_false_iff_not]; exact h
    rw [this]; simp

section
variable {na nb i j : Nat} {ka ma kb mb : Nat → Int}
theorem kut1 (hi : i ≤ na) : beg na ka ma i ka ma = true := beg_iff.2 ⟨hi, fun _ _ => ⟨rfl, rfl⟩⟩
theorem kut2 (hi : i ≤ na) (h : beg i ka ma nb kb mb = true) : beg na ka ma nb kb mb = true := by
  rw [beg_iff] at *; exact ⟨by omega, h.2⟩
theorem kut3 : (beg na ka ma nb kb mb && beg nb kb mb na ka ma) = sam na ka ma nb kb mb := by
  rw [Bool.eq_iff_iff, Bool.and_eq_true, beg_iff, beg_iff]
  simp only [sam, Bool.and_eq_true, decide_eq_true_eq, evEq_iff]
  constructor
  · rintro ⟨⟨h1, h2⟩, h3, h4⟩; exact ⟨by omega, fun i hi => h2 i (by omega)⟩
  · rintro ⟨rfl, h⟩; exact ⟨⟨Nat.le_refl _, h⟩, Nat.le_refl _, fun i hi => ⟨(h i hi).1.symm, (h i hi).2.symm⟩⟩
theorem agr_ff : agr na ka ma false nb kb mb false = (beg na ka ma nb kb mb || beg nb kb mb na ka ma) := by simp [agr]
theorem agr_ft : agr na ka ma false nb kb mb true = beg nb kb mb na ka ma := by
  simp [agr]; cases beg nb kb mb na ka ma <;> cases beg na ka ma nb kb mb <;> simp
theorem kut4 (hi : i ≤ na) (hj : j ≤ nb) (h : agr na ka ma false nb kb mb false = true) : agr i ka ma false j kb mb false = true := by
  rw [agr_ff, Bool.or_eq_true] at *
  rw [beg_iff, beg_iff] at *
  by_cases hij : j ≤ i
  · left
    rcases h with h | h
    · exact ⟨hij, fun x hx => h.2 x (by omega)⟩
    · exact ⟨hij, fun x hx => ⟨((h.2 x (by omega)).1).symm, ((h.2 x (by omega)).2).symm⟩⟩
  · right
    rcases h with h | h
    · exact ⟨by omega, fun x hx => ⟨((h.2 x (by omega)).1).symm, ((h.2 x (by omega)).2).symm⟩⟩
    · exact ⟨by omega, fun x hx => h.2 x (by omega)⟩
theorem kut5 (hi : i ≤ na) (h : agr na ka ma false nb kb mb true = true) : agr i ka ma false nb kb mb true = true := by
  rw [agr_ft, beg_iff] at *
  exact ⟨by omega, fun x hx => h.2 x (by omega)⟩
theorem kut6 (h : agr na ka ma true nb kb mb true = true) : fol na ka ma nb kb mb = true := by
  unfold agr at h
  unfold fol
  cases hf : isFull na ka ma
  · rw [hf] at h
    simp at h
    simp [h.2]
  · rw [hf] at h
    simp at h
    simp [h]
theorem kut7 : (decide (fd (min na nb) ka ma kb mb < 0)) = (beg na ka ma nb kb mb || beg nb kb mb na ka ma) := by
  rw [fd_neg, Bool.eq_iff_iff, Bool.or_eq_true, beg_iff, beg_iff, evEq_iff]
  constructor
  · intro h
    by_cases hle : nb ≤ na
    · exact .inl ⟨hle, fun i hi => h i (by omega)⟩
    · exact .inr ⟨by omega, fun i hi => ⟨((h i (by omega)).1).symm, ((h i (by omega)).2).symm⟩⟩
  · rintro (h | h) i hi
    · exact h.2 i (by omega)
    · exact ⟨((h.2 i (by omega)).1).symm, ((h.2 i (by omega)).2).symm⟩
end

theorem cagree_v (a a' : Option Addr) (n c n' c' : Nat) (k m k' m' : Nat → Int) (en ov v : Bool) (w : World) (hn : n ≤ 1000000) (hc : n ≤ c) (hn' : n' ≤ 1000000) (hc' : n' ≤ c') (h : EvS w a n k m) (h' : EvS w a' n' k' m')
    (hv : agr n k m en n' k' m' ov = v) :
    Calls Tryd.prog 11 #[.slice a n c, .bool en, .slice a' n' c', .bool ov] w fun e w' => e = .returned (.bool v) ∧ Below w.heap.size w w' := hv ▸ agree_any a a' n c n' c' k m k' m' en ov w hn hc hn' hc' h h'
theorem csame_v (a1 a2 : Option Addr) (n1 n2 c1 c2 : Nat) (k1 m1 k2 m2 : Nat → Int) (v : Bool) (w : World) (hn1 : n1 ≤ 1000000) (hn2 : n2 ≤ 1000000) (h1 : EvS w a1 n1 k1 m1) (h2 : EvS w a2 n2 k2 m2) (hv : sam n1 k1 m1 n2 k2 m2 = v) :
    Calls Tryd.prog 10 #[.slice a1 n1 c1, .slice a2 n2 c2] w fun e w' => e = .returned (.bool v) ∧ Below w.heap.size w w' := hv ▸ same_any a1 a2 n1 n2 c1 c2 k1 m1 k2 m2 w hn1 hn2 h1 h2

set_option maxRecDepth 100000 in
set_option maxHeartbeats 8000000 in
theorem cut_small (a b : Option Addr) (na ca nb cb i j x y : Nat) (ka ma kb mb : Nat → Int) (w : World) (henv : Env w) (hna : na ≤ 200) (hnb : nb ≤ 200) (hca : na ≤ ca) (hcb : nb ≤ cb) (hi : i ≤ 255) (hj : j ≤ 255)
    (hx : x = min i na) (hy : y = min j nb) (ha : EvS w a na ka ma) (hb : EvS w b nb kb mb) :
    Calls Tryd.prog 3 #[.slice a na ca, .slice b nb cb, .int .u8 i, .int .u8 j] w fun e w' => e = .returned (.bool true) ∧ Below w.heap.size w w' := by
  have HA := Lib.hid ha; have HB := Lib.hid hb; have HENV := Lib.hid henv
  have HX := Lib.hid hx; have HY := Lib.hid hy
  have hxa : x ≤ na := by omega
  have hyb : y ≤ nb := by omega
  have g1 : ¬ (200 : Int) < na := by omega
  have g2 : ¬ (200 : Int) < nb := by omega
  clear ha hb henv hx hy
  go_enter Tryd.func3, Tryd.ntmps3
  go_upto_region 3 with fail
  go_cut [9, 10] (fun s9 s10 wx => s9 = .slice a x ca ∧ s10 = .slice b y cb ∧ Below w.heap.size w wx)
  case first =>
    by_cases hia : i ≤ na <;> by_cases hjb : j ≤ nb
    all_goals
      have ex : x = (if i ≤ na then i else na) := by have := HX.out; split <;> omega
      have ey : y = (if j ≤ nb then j else nb) := by have := HY.out; split <;> omega
      simp only [hia, hjb, if_true, if_false] at ex ey
      subst ex ey
      go_quiet (fail)
      go_wp2_with fail
      go_meet
      exact ⟨congrArg (fun q : Nat => Value.slice a q ca) (by omega), congrArg (fun q : Nat => Value.slice b q cb) (by omega), below_drewN _ _⟩
  case rest =>
    obtain ⟨rfl, rfl, hbc⟩ := hcut
    have HAC := Lib.hid (HA.out.below hbc); have HBC := Lib.hid (HB.out.below hbc)
    go_upto_region 4 with fail
    go_cut [62] (fun s wx => s = .bool false ∧ Below w.heap.size w wx)
    case first =>
      cases h2 : beg na ka ma nb kb mb with
      | false =>
        have h1 : beg x ka ma nb kb mb = false := by
          cases h : beg x ka ma nb kb mb with
          | false => rfl
          | true => rw [kut2 hxa h] at h2; cases h2
        have hs : sam na ka ma nb kb mb = false := by rw [← kut3, h2]; rfl
        have H1 := Lib.hid h1; have H2 := Lib.hid h2; have HS := Lib.hid hs
        clear h1 h2 hs
        go_wp2_with fail
        refine (begins_v a a na x ca ca ka ma ka ma true _ (by omega) (by omega) hca HAC.out (HAC.out.take _ hxa) (kut1 hxa)).mono ?_; rintro e w1 ⟨rfl, hb1⟩
        go_wp2_with fail
        refine (begins_v a b x nb ca cb ka ma kb mb false _ (by omega) (by omega) (by omega) ((HAC.out.take _ hxa).below hb1) (HBC.out.below hb1) H1.out).mono ?_; rintro e w2 ⟨rfl, hb2⟩
        go_wp2_with fail
        refine (begins_v a b na nb ca cb ka ma kb mb false _ (by omega) (by omega) (by omega) ((HAC.out.below hb1).below hb2) ((HBC.out.below hb1).below hb2) H2.out).mono ?_; rintro e w3 ⟨rfl, hb3⟩
        go_wp2_with fail
        refine (csame_v a b na nb ca cb ka ma kb mb false _ (by omega) (by omega) (((HAC.out.below hb1).below hb2).below hb3) (((HBC.out.below hb1).below hb2).below hb3) HS.out).mono ?_; rintro e w4 ⟨rfl, hb4⟩
        go_wp2_with fail
        go_meet
        exact ⟨rfl, below_next (below_next (below_next (below_next hbc hb1) hb2) hb3) hb4⟩
      | true =>
        cases h3 : beg nb kb mb na ka ma
        all_goals
          have hs := kut3 (na := na) (ka := ka) (ma := ma) (nb := nb) (kb := kb) (mb := mb)
          rw [h2, h3] at hs
          have H2 := Lib.hid h2; have H3 := Lib.hid h3; have HS := Lib.hid hs.symm
          clear h2 h3 hs
          cases h1 : beg x ka ma nb kb mb with
          | false =>
            have H1 := Lib.hid h1; clear h1
            go_wp2_with fail
            refine (begins_v a a na x ca ca ka ma ka ma true _ (by omega) (by omega) hca HAC.out (HAC.out.take _ hxa) (kut1 hxa)).mono ?_; rintro e w1 ⟨rfl, hb1⟩
            go_wp2_with fail
            refine (begins_v a b x nb ca cb ka ma kb mb false _ (by omega) (by omega) (by omega) ((HAC.out.below hb1).take _ hxa) (HBC.out.below hb1) H1.out).mono ?_; rintro e w2 ⟨rfl, hb2⟩
            go_wp2_with fail
            refine (begins_v a b na nb ca cb ka ma kb mb true _ (by omega) (by omega) (by omega) ((HAC.out.below hb1).below hb2) ((HBC.out.below hb1).below hb2) H2.out).mono ?_; rintro e w3 ⟨rfl, hb3⟩
            go_wp2_with fail
            refine (begins_v b a nb na cb ca kb mb ka ma _ _ (by omega) (by omega) (by omega) (((HBC.out.below hb1).below hb2).below hb3) (((HAC.out.below hb1).below hb2).below hb3) H3.out).mono ?_; rintro e w4 ⟨rfl, hb4⟩
            go_wp2_with fail
            refine (csame_v a b na nb ca cb ka ma kb mb _ _ (by omega) (by omega) ((((HAC.out.below hb1).below hb2).below hb3).below hb4) ((((HBC.out.below hb1).below hb2).below hb3).below hb4) HS.out).mono ?_; rintro e w5 ⟨rfl, hb5⟩
            go_wp2_with fail
            go_meet
            exact ⟨rfl, below_next (below_next (below_next (below_next (below_next (hbc) hb1) hb2) hb3) hb4) hb5⟩
          | true =>
            have H1 := Lib.hid h1; clear h1
            go_wp2_with fail
            refine (begins_v a a na x ca ca ka ma ka ma true _ (by omega) (by omega) hca HAC.out (HAC.out.take _ hxa) (kut1 hxa)).mono ?_; rintro e w1 ⟨rfl, hb1⟩
            go_wp2_with fail
            refine (begins_v a b x nb ca cb ka ma kb mb true _ (by omega) (by omega) (by omega) ((HAC.out.below hb1).take _ hxa) (HBC.out.below hb1) H1.out).mono ?_; rintro e w2 ⟨rfl, hb2⟩
            go_wp2_with fail
            refine (begins_v a b na nb ca cb ka ma kb mb true _ (by omega) (by omega) (by omega) ((HAC.out.below hb1).below hb2) ((HBC.out.below hb1).below hb2) H2.out).mono ?_; rintro e w3 ⟨rfl, hb3⟩
            go_wp2_with fail
            refine (begins_v a b na nb ca cb ka ma kb mb true _ (by omega) (by omega) (by omega) (((HAC.out.below hb1).below hb2).below hb3) (((HBC.out.below hb1).below hb2).below hb3) H2.out).mono ?_; rintro e w4 ⟨rfl, hb4⟩
            go_wp2_with fail
            refine (begins_v b a nb na cb ca kb mb ka ma _ _ (by omega) (by omega) (by omega) ((((HBC.out.below hb1).below hb2).below hb3).below hb4) ((((HAC.out.below hb1).below hb2).below hb3).below hb4) H3.out).mono ?_; rintro e w5 ⟨rfl, hb5⟩
            go_wp2_with fail
            refine (csame_v a b na nb ca cb ka ma kb mb _ _ (by omega) (by omega) (((((HAC.out.below hb1).below hb2).below hb3).below hb4).below hb5) (((((HBC.out.below hb1).below hb2).below hb3).below hb4).below hb5) HS.out).mono ?_; rintro e w6 ⟨rfl, hb6⟩
            go_wp2_with fail
            go_meet
            exact ⟨rfl, below_next (below_next (below_next (below_next (below_next (below_next (hbc) hb1) hb2) hb3) hb4) hb5) hb6⟩
    case rest =>
      obtain ⟨rfl, hbd⟩ := hcut
      have HAC := Lib.hid (HA.out.below hbd); have HBC := Lib.hid (HB.out.below hbd)
      go_upto_region 6 with fail
      go_cut [93] (fun s wx => s = .bool false ∧ Below w.heap.size w wx)
      case first =>
        cases q1 : agr na ka ma false nb kb mb false with
        | false =>
          have q2 : agr na ka ma false nb kb mb true = false := by
            rw [agr_ff, Bool.or_eq_false_iff] at q1; rw [agr_ft]; exact q1.2
          cases q3 : agr na ka ma true nb kb mb true with
          | false =>
            have G1 := Lib.hid q1; have G2 := Lib.hid q2; have G3 := Lib.hid q3
            clear q1 q2 q3
            go_wp2_with fail
            refine (cagree_v a b na ca nb cb ka ma kb mb false false false _ (by omega) (by omega) (by omega) (by omega) HAC.out HBC.out G1.out).mono ?_; rintro e w1 ⟨rfl, hb1⟩
            go_wp2_with fail
            refine (cagree_v a b na ca nb cb ka ma kb mb false true false _ (by omega) (by omega) (by omega) (by omega) (HAC.out.below hb1) (HBC.out.below hb1) G2.out).mono ?_; rintro e w2 ⟨rfl, hb2⟩
            go_wp2_with fail
            refine (cagree_v a b na ca nb cb ka ma kb mb true true false _ (by omega) (by omega) (by omega) (by omega) ((HAC.out.below hb1).below hb2) ((HBC.out.below hb1).below hb2) G3.out).mono ?_; rintro e w3 ⟨rfl, hb3⟩
            go_wp2_with fail
            go_meet
            exact ⟨rfl, below_next (below_next (below_next (hbd) hb1) hb2) hb3⟩
          | true =>
            have G1 := Lib.hid q1; have G2 := Lib.hid q2; have G3 := Lib.hid q3; have GX3 := Lib.hid (kut6 q3)
            clear q1 q2 q3
            go_wp2_with fail
            refine (cagree_v a b na ca nb cb ka ma kb mb false false false _ (by omega) (by omega) (by omega) (by omega) HAC.out HBC.out G1.out).mono ?_; rintro e w1 ⟨rfl, hb1⟩
            go_wp2_with fail
            refine (cagree_v a b na ca nb cb ka ma kb mb false true false _ (by omega) (by omega) (by omega) (by omega) (HAC.out.below hb1) (HBC.out.below hb1) G2.out).mono ?_; rintro e w2 ⟨rfl, hb2⟩
            go_wp2_with fail
            refine (cagree_v a b na ca nb cb ka ma kb mb true true true _ (by omega) (by omega) (by omega) (by omega) ((HAC.out.below hb1).below hb2) ((HBC.out.below hb1).below hb2) G3.out).mono ?_; rintro e w3 ⟨rfl, hb3⟩
            go_wp2_with fail
            refine (follows_v a b na ca nb cb ka ma kb mb true _ (by omega) (by omega) (by omega) (by omega) (((HAC.out.below hb1).below hb2).below hb3) (((HBC.out.below hb1).below hb2).below hb3) GX3.out).mono ?_; rintro e w4 ⟨rfl, hb4⟩
            go_wp2_with fail
            go_meet
            exact ⟨rfl, below_next (below_next (below_next (below_next (hbd) hb1) hb2) hb3) hb4⟩
        | true =>
          have GX1 := Lib.hid (kut4 hxa hyb q1)
          have G1 := Lib.hid q1
          clear q1
          cases q2 : agr na ka ma false nb kb mb true with
          | false =>
            cases q3 : agr na ka ma true nb kb mb true with
            | false =>
              have G2 := Lib.hid q2; have G3 := Lib.hid q3
              clear q2 q3
              go_wp2_with fail
              refine (cagree_v a b na ca nb cb ka ma kb mb false false true _ (by omega) (by omega) (by omega) (by omega) HAC.out HBC.out G1.out).mono ?_; rintro e w1 ⟨rfl, hb1⟩
              go_wp2_with fail
              refine (cagree_v a b x ca y cb ka ma kb mb false false true _ (by omega) (by omega) (by omega) (by omega) ((HAC.out.below hb1).take _ hxa) ((HBC.out.below hb1).take _ hyb) GX1.out).mono ?_; rintro e w2 ⟨rfl, hb2⟩
              go_wp2_with fail
              refine (cagree_v a b na ca nb cb ka ma kb mb false true false _ (by omega) (by omega) (by omega) (by omega) ((HAC.out.below hb1).below hb2) ((HBC.out.below hb1).below hb2) G2.out).mono ?_; rintro e w3 ⟨rfl, hb3⟩
              go_wp2_with fail
              refine (cagree_v a b na ca nb cb ka ma kb mb true true false _ (by omega) (by omega) (by omega) (by omega) (((HAC.out.below hb1).below hb2).below hb3) (((HBC.out.below hb1).below hb2).below hb3) G3.out).mono ?_; rintro e w4 ⟨rfl, hb4⟩
              go_wp2_with fail
              go_meet
              exact ⟨rfl, below_next (below_next (below_next (below_next (hbd) hb1) hb2) hb3) hb4⟩
            | true =>
              have G2 := Lib.hid q2; have G3 := Lib.hid q3; have GX3 := Lib.hid (kut6 q3)
              clear q2 q3
              go_wp2_with fail
              refine (cagree_v a b na ca nb cb ka ma kb mb false false true _ (by omega) (by omega) (by omega) (by omega) HAC.out HBC.out G1.out).mono ?_; rintro e w1 ⟨rfl, hb1⟩
              go_wp2_with fail
              refine (cagree_v a b x ca y cb ka ma kb mb false false true _ (by omega) (by omega) (by omega) (by omega) ((HAC.out.below hb1).take _ hxa) ((HBC.out.below hb1).take _ hyb) GX1.out).mono ?_; rintro e w2 ⟨rfl, hb2⟩
              go_wp2_with fail
              refine (cagree_v a b na ca nb cb ka ma kb mb false true false _ (by omega) (by omega) (by omega) (by omega) ((HAC.out.below hb1).below hb2) ((HBC.out.below hb1).below hb2) G2.out).mono ?_; rintro e w3 ⟨rfl, hb3⟩
              go_wp2_with fail
              refine (cagree_v a b na ca nb cb ka ma kb mb true true true _ (by omega) (by omega) (by omega) (by omega) (((HAC.out.below hb1).below hb2).below hb3) (((HBC.out.below hb1).below hb2).below hb3) G3.out).mono ?_; rintro e w4 ⟨rfl, hb4⟩
              go_wp2_with fail
              refine (follows_v a b na ca nb cb ka ma kb mb true _ (by omega) (by omega) (by omega) (by omega) ((((HAC.out.below hb1).below hb2).below hb3).below hb4) ((((HBC.out.below hb1).below hb2).below hb3).below hb4) GX3.out).mono ?_; rintro e w5 ⟨rfl, hb5⟩
              go_wp2_with fail
              go_meet
              exact ⟨rfl, below_next (below_next (below_next (below_next (below_next (hbd) hb1) hb2) hb3) hb4) hb5⟩
          | true =>
            cases q3 : agr na ka ma true nb kb mb true with
            | false =>
              have G2 := Lib.hid q2; have GX2 := Lib.hid (kut5 hxa q2); have G3 := Lib.hid q3
              clear q2 q3
              go_wp2_with fail
              refine (cagree_v a b na ca nb cb ka ma kb mb false false true _ (by omega) (by omega) (by omega) (by omega) HAC.out HBC.out G1.out).mono ?_; rintro e w1 ⟨rfl, hb1⟩
              go_wp2_with fail
              refine (cagree_v a b x ca y cb ka ma kb mb false false true _ (by omega) (by omega) (by omega) (by omega) ((HAC.out.below hb1).take _ hxa) ((HBC.out.below hb1).take _ hyb) GX1.out).mono ?_; rintro e w2 ⟨rfl, hb2⟩
              go_wp2_with fail
              refine (cagree_v a b na ca nb cb ka ma kb mb false true true _ (by omega) (by omega) (by omega) (by omega) ((HAC.out.below hb1).below hb2) ((HBC.out.below hb1).below hb2) G2.out).mono ?_; rintro e w3 ⟨rfl, hb3⟩
              go_wp2_with fail
              refine (cagree_v a b x ca nb cb ka ma kb mb false true true _ (by omega) (by omega) (by omega) (by omega) ((((HAC.out.below hb1).below hb2).below hb3).take _ hxa) (((HBC.out.below hb1).below hb2).below hb3) GX2.out).mono ?_; rintro e w4 ⟨rfl, hb4⟩
              go_wp2_with fail
              refine (cagree_v a b na ca nb cb ka ma kb mb true true false _ (by omega) (by omega) (by omega) (by omega) ((((HAC.out.below hb1).below hb2).below hb3).below hb4) ((((HBC.out.below hb1).below hb2).below hb3).below hb4) G3.out).mono ?_; rintro e w5 ⟨rfl, hb5⟩
              go_wp2_with fail
              go_meet
              exact ⟨rfl, below_next (below_next (below_next (below_next (below_next (hbd) hb1) hb2) hb3) hb4) hb5⟩
            | true =>
              have G2 := Lib.hid q2; have GX2 := Lib.hid (kut5 hxa q2); have G3 := Lib.hid q3; have GX3 := Lib.hid (kut6 q3)
              clear q2 q3
              go_wp2_with fail
              refine (cagree_v a b na ca nb cb ka ma kb mb false false true _ (by omega) (by omega) (by omega) (by omega) HAC.out HBC.out G1.out).mono ?_; rintro e w1 ⟨rfl, hb1⟩
              go_wp2_with fail
              refine (cagree_v a b x ca y cb ka ma kb mb false false true _ (by omega) (by omega) (by omega) (by omega) ((HAC.out.below hb1).take _ hxa) ((HBC.out.below hb1).take _ hyb) GX1.out).mono ?_; rintro e w2 ⟨rfl, hb2⟩
              go_wp2_with fail
              refine (cagree_v a b na ca nb cb ka ma kb mb false true true _ (by omega) (by omega) (by omega) (by omega) ((HAC.out.below hb1).below hb2) ((HBC.out.below hb1).below hb2) G2.out).mono ?_; rintro e w3 ⟨rfl, hb3⟩
              go_wp2_with fail
              refine (cagree_v a b x ca nb cb ka ma kb mb false true true _ (by omega) (by omega) (by omega) (by omega) ((((HAC.out.below hb1).below hb2).below hb3).take _ hxa) (((HBC.out.below hb1).below hb2).below hb3) GX2.out).mono ?_; rintro e w4 ⟨rfl, hb4⟩
              go_wp2_with fail
              refine (cagree_v a b na ca nb cb ka ma kb mb true true true _ (by omega) (by omega) (by omega) (by omega) ((((HAC.out.below hb1).below hb2).below hb3).below hb4) ((((HBC.out.below hb1).below hb2).below hb3).below hb4) G3.out).mono ?_; rintro e w5 ⟨rfl, hb5⟩
              go_wp2_with fail
              refine (follows_v a b na ca nb cb ka ma kb mb true _ (by omega) (by omega) (by omega) (by omega) (((((HAC.out.below hb1).below hb2).below hb3).below hb4).below hb5) (((((HBC.out.below hb1).below hb2).below hb3).below hb4).below hb5) GX3.out).mono ?_; rintro e w6 ⟨rfl, hb6⟩
              go_wp2_with fail
              go_meet
              exact ⟨rfl, below_next (below_next (below_next (below_next (below_next (below_next (hbd) hb1) hb2) hb3) hb4) hb5) hb6⟩
      case rest =>
        obtain ⟨rfl, hbe⟩ := hcut
        have HAC := Lib.hid (HA.out.below hbe); have HBC := Lib.hid (HB.out.below hbe); have HENVC := Lib.hid (HENV.out.below hbe)
        have h7 := kut7 (na := na) (ka := ka) (ma := ma) (nb := nb) (kb := kb) (mb := mb)
        cases h2 : beg na ka ma nb kb mb with
        | false =>
          cases h3 : beg nb kb mb na ka ma
          all_goals
            rw [h2, h3] at h7
            simp only [Bool.or_false, Bool.or_true] at h7
            have H2 := Lib.hid h2; have H3 := Lib.hid h3
            clear h2 h3
            go_wp2_with fail
            refine (apart_any a b na nb ca cb ka ma kb mb _ (by omega) (by omega) HAC.out HBC.out).mono ?_; rintro e w1 ⟨rfl, hb1⟩
            go_wp2_with fail
            refine (begins_v a b na nb ca cb ka ma kb mb false _ (by omega) (by omega) (by omega) (HAC.out.below hb1) (HBC.out.below hb1) H2.out).mono ?_; rintro e w2 ⟨rfl, hb2⟩
            go_wp2_with fail
            refine (begins_v b a nb na cb ca kb mb ka ma _ _ (by omega) (by omega) (by omega) ((HBC.out.below hb1).below hb2) ((HAC.out.below hb1).below hb2) H3.out).mono ?_; rintro e w3 ⟨rfl, hb3⟩
            go_wp2_with fail
            refine (works_any _ ((((HENVC.out.below hb1).below hb2).below hb3))).mono ?_; rintro e w4 ⟨rfl, hb4⟩
            go_wp2_with fail
            go_ret
            exact ⟨rfl, below_next (below_next (below_next (below_next (hbe) hb1) hb2) hb3) hb4⟩
        | true =>
          rw [h2] at h7
          simp only [Bool.true_or] at h7
          have H2 := Lib.hid h2
          clear h2
          go_wp2_with fail
          refine (apart_any a b na nb ca cb ka ma kb mb _ (by omega) (by omega) HAC.out HBC.out).mono ?_; rintro e w1 ⟨rfl, hb1⟩
          go_wp2_with fail
          refine (begins_v a b na nb ca cb ka ma kb mb true _ (by omega) (by omega) (by omega) (HAC.out.below hb1) (HBC.out.below hb1) H2.out).mono ?_; rintro e w2 ⟨rfl, hb2⟩
          go_wp2_with fail
          refine (works_any _ (((HENVC.out.below hb1).below hb2))).mono ?_; rintro e w3 ⟨rfl, hb3⟩
          go_wp2_with fail
          go_ret
          exact ⟨rfl, below_next (below_next (below_next (hbe) hb1) hb2) hb3⟩

set_option maxRecDepth 100000 in
set_option maxHeartbeats 1000000 in
theorem cut_big (a b : Option Addr) (na ca nb cb : Nat) (i j : Int) (w : World) (henv : Env w) (h : 200 < na ∨ 200 < nb) (hm : na ≤ 9223372036854775807) (hm' : nb ≤ 9223372036854775807) :
    Calls Tryd.prog 3 #[.slice a na ca, .slice b nb cb, .int .u8 i, .int .u8 j] w fun e w' => e = .returned (.bool true) ∧ Below w.heap.size w w' := by
  have HENV := Lib.hid henv; clear henv
  by_cases h1 : 200 < na
  · have g1 : (200 : Int) < na := by omega
    clear h
    go_enter Tryd.func3, Tryd.ntmps3
    go_wp2_with fail
    refine (works_any _ HENV.out).mono ?_; rintro e w1 ⟨rfl, hb1⟩
    go_wp2_with fail
    go_ret
    exact ⟨rfl, hb1⟩
  · have g1 : ¬ (200 : Int) < na := by omega
    have g2 : (200 : Int) < nb := by omega
    clear h
    go_enter Tryd.func3, Tryd.ntmps3
    go_wp2_with fail
    refine (works_any _ HENV.out).mono ?_; rintro e w1 ⟨rfl, hb1⟩
    go_wp2_with fail
    go_ret
    exact ⟨rfl, hb1⟩

end Go.Proofs.YtadcegfdojocmaaDoor
