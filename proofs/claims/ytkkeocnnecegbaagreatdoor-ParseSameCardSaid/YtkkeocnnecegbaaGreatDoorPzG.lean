/- The walk over ParseUnlike. By an AI agent. -/
import Derived.Test.YtkkeocnnecegbaaGreatDoorJG
import Derived.Deep.RegionHeld3
namespace Go.Proofs.YtkkeocnnecegbaaGreatDoor
open Go.RowKit

theorem few_get {l : List PV} (h : fewB (gns l) 200 = true) : l.length ≤ 200 ∧ ∀ g ∈ l, g.1.kids.length ≤ 200 ∧ g.1.text.length ≤ 50 := by
  unfold fewB at h
  simp only [Bool.and_eq_true, decide_eq_true_eq, List.all_eq_true] at h
  rw [gns_len] at h
  refine ⟨h.1, fun g hg => ?_⟩
  have := h.2 g.1 (List.mem_map.2 ⟨g, hg, rfl⟩)
  unfold fewG at this
  simp only [Bool.and_eq_true, decide_eq_true_eq] at this
  exact this
/-- What the statements on trees made by hand ask. -/
theorem few_asks {w : World} {A : Option Addr} {l : List PV} (h : NodR w A l) (he : EnvP w) (hf : fewB (gns l) 200 = true) : TreeR w A l ∧ (∀ g ∈ l, g.1.kids.length ≤ 1000000 ∧ g.1.text.length ≤ 1000000) ∧ (∀ x, ShapeG (gns l) x → wt (outP x) ≤ 65536) := by
  obtain ⟨h1, h2⟩ := few_get hf
  refine ⟨⟨h, he.tab, he.mx, by omega⟩, fun g hg => by have := h2 g hg; omega, fun x hx => ?_⟩
  have hs : ShortI 50 (gns l) := fun g hg => by
    obtain ⟨q, hq, rfl⟩ := List.mem_map.1 hg
    exact (h2 q hq).2
  have := outP_wt hx.wp.1 hx.wp.2 (at_max hs x 0 hx.at0)
  have hl := hx.len
  rw [gns_len] at hl
  have : (50 + 40) * sizeI x ≤ (50 + 40) * 200 := Nat.mul_le_mul_left _ (by omega)
  omega
def TxtOut (l : List PV) (w' : World) (e : Ending) : Prop := (¬ RightG (gns l) ∧ e = .returned (.tuple #[.slice none 0 0, .int .i64 2])) ∨ (∃ x Ad cd, ShapeG (gns l) x ∧ RightX x ∧ e = .returned (.tuple #[.slice Ad (textT x).length cd, .int .i64 0]) ∧ BytS w' Ad (textT x))

set_option maxRecDepth 100000 in
set_option maxHeartbeats 16000000 in
theorem unlike_few (A B : Option Addr) (c d : Nat) (l m : List PV) (w : World) (hA : NodR w A l) (hB : NodR w B m) (he : EnvP w) (hno : fewB (gns l) 200 = false ∨ fewB (gns m) 200 = false) :
    Calls Tryz.prog 6 #[.agg #[.slice A l.length c], .agg #[.slice B m.length d]] w fun e w' => e = .returned (.bool true) ∧ Below w.heap.size w w' := by
  have hb0 : Below w.heap.size w ((w.alloc (.cells #[.slice A l.length c] 24)).alloc (.cells #[.slice B m.length d] 24)) := ((Below.refl _ _).alloc (Nat.le_refl _) _).alloc (by simp) _
  have HF1 := Lib.hid (few_any A c 200 l _ (hA.below hb0) (by decide))
  have HF2 := Lib.hid (fun W hb => few_any B d 200 m W (hB.below hb) (by decide))
  have HX2 : Hid (Blk ((w.alloc (.cells #[.slice A l.length c] 24)).alloc (.cells #[.slice B m.length d] 24)) (w.heap.size + 1) 24 #[.slice B m.length d]) := Lib.hid (blk_at _ _ _ _ (by simp))
  have HB0 := Lib.hid hb0; have HE := Lib.hid he
  obtain ⟨n1, hn1⟩ : ∃ n, n = l.length := ⟨_, rfl⟩
  obtain ⟨n2, hn2⟩ : ∃ n, n = m.length := ⟨_, rfl⟩
  rw [← hn1] at HF1 HB0 HX2 ⊢
  rw [← hn2] at HF1 HF2 HB0 HX2 ⊢
  clear hA hB he hb0 hn1 hn2
  go_enter Tryz.func6, Tryz.ntmps6
  go_wp2_with fail
  refine HF1.out.mono ?_
  rintro e w1 ⟨rfl, hb1⟩
  have HB1 := Lib.hid (below_next HB0.out hb1)
  have hx2 := HX2.out.below hb1
  have c0 : w1.cell? ⟨w.heap.size + 1, 0, none⟩ = some (.slice B n2 d) := hx2.cell 0
  have lc0 := cell_lt' c0
  have HF := Lib.hid (HF2.out w1 HB1.out)
  clear hb1 hx2
  cases hf : fewB (gns l) 200 with
  | false =>
    go_wp2_with fail
    refine (works_good (HE.out.below HB1.out)).mono ?_
    rintro e w2 ⟨rfl, hb2⟩
    have HB2 := Lib.hid (below_next HB1.out hb2)
    clear hb2
    go_wp2_with fail
    go_ret
    exact ⟨rfl, HB2.out⟩
  | true =>
    have hf2 : fewB (gns m) 200 = false := by rcases hno with h | h; rw [hf] at h; cases h; exact h
    rw [hf2] at HF
    clear hno hf hf2
    go_wp2_with fail
    refine HF.out.mono ?_
    rintro e w2 ⟨rfl, hb2⟩
    have HB2 := Lib.hid (below_next HB1.out hb2)
    clear hb2
    go_wp2_with fail
    refine (works_good (HE.out.below HB2.out)).mono ?_
    rintro e w3 ⟨rfl, hb3⟩
    have HB3 := Lib.hid (below_next HB2.out hb3)
    clear hb3
    go_wp2_with fail
    go_ret
    exact ⟨rfl, HB3.out⟩

set_option maxRecDepth 100000 in
set_option maxHeartbeats 16000000 in
theorem unlike_yes (A B : Option Addr) (c d : Nat) (l m : List PV) (w : World) (hA : NodR w A l) (hB : NodR w B m) (he : EnvP w) (hf1 : fewB (gns l) 200 = true) (hf2 : fewB (gns m) 200 = true) :
    Calls Tryz.prog 6 #[.agg #[.slice A l.length c], .agg #[.slice B m.length d]] w fun e w' => e = .returned (.bool true) ∧ Below w.heap.size w w' := by
  obtain ⟨t1, k1, s1⟩ := few_asks hA he hf1
  obtain ⟨t2, k2, s2⟩ := few_asks hB he hf2
  have hb0 : Below w.heap.size w ((w.alloc (.cells #[.slice A l.length c] 24)).alloc (.cells #[.slice B m.length d] 24)) := ((Below.refl _ _).alloc (Nat.le_refl _) _).alloc (by simp) _
  have hq1 := few_any A c 200 l _ (hA.below hb0) (by decide)
  rw [hf1] at hq1
  have hq2 := fun W hb => few_any B d 200 m W (hB.below hb) (by decide)
  rw [hf2] at hq2
  have HF1 := Lib.hid hq1; have HF2 := Lib.hid hq2
  have HT1 := Lib.hid (fun W (hb : Below w.heap.size w W) => ptext_any (t1.below hb) (he.below hb).ew c k1 s1)
  have HT2 := Lib.hid (fun W (hb : Below w.heap.size w W) => ptext_any (t2.below hb) (he.below hb).ew d k2 s2)
  have HSM := Lib.hid (fun W (hb : Below w.heap.size w W) => same_any A B c d l m W (hA.below hb) (hB.below hb) t1.len t2.len (fun g hg => (k1 g hg).1) (fun g hg => (k2 g hg).1))
  have HX1 : Hid (Blk ((w.alloc (.cells #[.slice A l.length c] 24)).alloc (.cells #[.slice B m.length d] 24)) w.heap.size 24 #[.slice A l.length c]) := Lib.hid ((Blk.new w 24 _).alloc _)
  have HX2 : Hid (Blk ((w.alloc (.cells #[.slice A l.length c] 24)).alloc (.cells #[.slice B m.length d] 24)) (w.heap.size + 1) 24 #[.slice B m.length d]) := Lib.hid (blk_at _ _ _ _ (by simp))
  have HB0 := Lib.hid hb0; have HE := Lib.hid he
  obtain ⟨n1, hn1⟩ : ∃ n, n = l.length := ⟨_, rfl⟩
  obtain ⟨n2, hn2⟩ : ∃ n, n = m.length := ⟨_, rfl⟩
  rw [← hn1] at HF1 HB0 HX1 HX2 HT1 HSM ⊢
  rw [← hn2] at HF1 HF2 HB0 HX1 HX2 HT2 HSM ⊢
  clear hA hB he hb0 hn1 hn2 t1 k1 s1 t2 k2 s2 hq1 hq2 hf1 hf2
  go_enter Tryz.func6, Tryz.ntmps6
  go_wp2_with fail
  refine HF1.out.mono ?_
  rintro e w1 ⟨rfl, hb1⟩
  have HB1 := Lib.hid (below_next HB0.out hb1)
  have HY1 := Lib.hid (HX1.out.below hb1); have HY2 := Lib.hid (HX2.out.below hb1)
  have c2 : w1.cell? ⟨w.heap.size + 1, 0, none⟩ = some (.slice B n2 d) := HY2.out.cell 0
  have lc2 := cell_lt' c2
  clear hb1 HX1 HX2
  go_wp2_with fail
  refine (HF2.out w1 HB1.out).mono ?_
  rintro e w2 ⟨rfl, hb2⟩
  have HB2 := Lib.hid (below_next HB1.out hb2)
  have HX1 := Lib.hid (HY1.out.below hb2); have HX2 := Lib.hid (HY2.out.below hb2)
  clear c2 lc2 hb2 HY1 HY2
  have c1 : w2.cell? ⟨w.heap.size, 0, none⟩ = some (.slice A n1 c) := HX1.out.cell 0
  have lc1 := cell_lt' c1
  go_wp2_with fail
  refine (HT1.out w2 HB2.out).mono ?_
  rintro e w3 ⟨ho1, hb3⟩
  have HB3 := Lib.hid (below_next HB2.out hb3)
  have HY1 := Lib.hid (HX1.out.below hb3); have HY2 := Lib.hid (HX2.out.below hb3)
  clear c1 lc1 hb3 HX1 HX2
  have c2 : w3.cell? ⟨w.heap.size + 1, 0, none⟩ = some (.slice B n2 d) := HY2.out.cell 0
  have lc2 := cell_lt' c2
  rcases ho1 with ⟨_, rfl⟩ | ⟨x, A1, c1, hx, rx, rfl, hby1⟩
  · go_wp2_with fail
    refine (HT2.out w3 HB3.out).mono ?_
    rintro e w4 ⟨ho2, hb4⟩
    have HB4 := Lib.hid (below_next HB3.out hb4)
    clear c2 lc2 hb4
    rcases ho2 with ⟨_, rfl⟩ | ⟨y, A2, c2, _, _, rfl, _⟩
    all_goals
      go_wp2_with fail
      refine (works_good (HE.out.below HB4.out)).mono ?_
      rintro e w5 ⟨rfl, hb5⟩
      have HB5 := Lib.hid (below_next HB4.out hb5)
      clear hb5
      go_wp2_with fail
      go_ret
      exact ⟨rfl, HB5.out⟩
  · have HBY1 := Lib.hid hby1; have HXX := Lib.hid (And.intro hx rx)
    clear hby1 hx rx
    obtain ⟨T1, hT1⟩ : ∃ T, T = textT x := ⟨_, rfl⟩
    obtain ⟨m1, hm1⟩ : ∃ m, m = (textT x).length := ⟨_, rfl⟩
    rw [← hm1]
    have HM1 := Lib.hid hm1; have HE1 := Lib.hid hT1
    clear hm1 hT1
    go_wp2_with fail
    refine (HT2.out w3 HB3.out).mono ?_
    rintro e w4 ⟨ho2, hb4⟩
    have HB4 := Lib.hid (below_next HB3.out hb4)
    have HX1 := Lib.hid (HY1.out.below hb4); have HX2 := Lib.hid (HY2.out.below hb4)
    have HBZ1 := Lib.hid (HBY1.out.below hb4)
    clear c2 lc2 hb4 HY1 HY2 HBY1
    rcases ho2 with ⟨_, rfl⟩ | ⟨y, A2, c2, hy, ry, rfl, hby2⟩
    · go_wp2_with fail
      refine (works_good (HE.out.below HB4.out)).mono ?_
      rintro e w5 ⟨rfl, hb5⟩
      have HB5 := Lib.hid (below_next HB4.out hb5)
      clear hb5
      go_wp2_with fail
      go_ret
      exact ⟨rfl, HB5.out⟩
    · have HBZ2 := Lib.hid hby2; have HYY := Lib.hid (And.intro hy ry)
      have HUN : Hid (textT x = textT y ↔ sameG (gns l) (gns m)) := Lib.hid (RightX.unlike HXX.out.1 hy HXX.out.2 ry)
      clear hby2 hy ry
      obtain ⟨T2, hT2⟩ : ∃ T, T = textT y := ⟨_, rfl⟩
      obtain ⟨m2, hm2⟩ : ∃ m, m = (textT y).length := ⟨_, rfl⟩
      rw [← hm2]
      have HSS : Hid ((T1 == T2) = decide (sameG (gns l) (gns m))) := Lib.hid (by
        rw [Bool.eq_iff_iff, beq_iff_eq, decide_eq_true_iff, ← HUN.out, HE1.out, hT2])
      have HS : Hid (∀ W, Below w4.heap.size w4 W → (W.cell? ⟨w.heap.size, 0, none⟩ = some (.slice A n1 c) ∧ W.cell? ⟨w.heap.size + 1, 0, none⟩ = some (.slice B n2 d)) ∧ (convert 30 9 (.slice A1 m1 c1)).run Tryz.prog W = .ok (.string ⟨T1.toArray⟩) W ∧ (convert 30 9 (.slice A2 m2 c2)).run Tryz.prog W = .ok (.string ⟨T2.toArray⟩) W) := Lib.hid (fun W hb => ⟨⟨(HX1.out.below hb).cell 0, (HX2.out.below hb).cell 0⟩, by rw [HE1.out, HM1.out]; exact (HBZ1.out.below hb).conv c1, by rw [hT2, hm2]; exact (HBZ2.out.below hb).conv c2⟩)
      clear hT2 hm2
      cases hsb : (T1 == T2)
      case false =>
        have HDD : Hid (decide (sameG (gns l) (gns m)) = false) := Lib.hid (by rw [← HSS.out, hsb])
        go_wp2_with fail
        have hdr : Below w4.heap.size w4 w4.drew := ⟨rfl, rfl, rfl, Nat.le_refl _, fun _ _ => rfl⟩
        refine wp_region_held_drew (S := fun W => (W.cell? ⟨w.heap.size, 0, none⟩ = some (.slice A n1 c) ∧ W.cell? ⟨w.heap.size + 1, 0, none⟩ = some (.slice B n2 d)) ∧ (convert 30 9 (.slice A1 m1 c1)).run Tryz.prog W = .ok (.string ⟨T1.toArray⟩) W ∧ (convert 30 9 (.slice A2 m2 c2)).run Tryz.prog W = .ok (.string ⟨T2.toArray⟩) W) (by kernel_rfl) (HS.out _ hdr) (fun hS => ?_)
        refine wpAnyH_take (i := 0) (v := .slice A1 m1 c1) rfl (by kernel_rfl) (by kernel_rfl) (by kernel_rfl) (fun _ _ _ h => h) (Or.inl ⟨by rfl, ?_⟩) hS ?_
        · rintro W ⟨⟨hW1, hW2⟩, hW3, hW4⟩
          go_simp
        simp only [Act.put, List.setIfInBounds_toArray]
        refine wpAnyH_take (i := 1) (v := .string ⟨T1.toArray⟩) rfl (by kernel_rfl) (by kernel_rfl) (by kernel_rfl) (fun _ _ _ h => h) (Or.inl ⟨by rfl, ?_⟩) hS ?_
        · rintro W ⟨⟨hW1, hW2⟩, hW3, hW4⟩
          go_simp
        simp only [Act.put]
        refine wpAnyH_take (i := 2) (v := .slice A2 m2 c2) rfl (by kernel_rfl) (by kernel_rfl) (by kernel_rfl) (fun _ _ _ h => h) (Or.inl ⟨by rfl, ?_⟩) hS ?_
        · rintro W ⟨⟨hW1, hW2⟩, hW3, hW4⟩
          go_simp
        simp only [Act.put]
        refine wpAnyH_take (i := 3) (v := .string ⟨T2.toArray⟩) rfl (by kernel_rfl) (by kernel_rfl) (by kernel_rfl) (fun _ _ _ h => h) (Or.inl ⟨by rfl, ?_⟩) hS ?_
        · rintro W ⟨⟨hW1, hW2⟩, hW3, hW4⟩
          go_simp
        simp only [Act.put]
        refine wpAnyH_take (i := 4) (v := .bool false) rfl (by kernel_rfl) (by kernel_rfl) (by kernel_rfl) (fun _ _ _ h => h) (Or.inl ⟨by rfl, ?_⟩) hS ?_
        · rintro W ⟨⟨hW1, hW2⟩, hW3, hW4⟩
          go_simp
        simp only [Act.put]
        refine wpAnyH_take (i := 5) (v := .agg #[.slice A n1 c]) rfl (by kernel_rfl) (by kernel_rfl) (by kernel_rfl) (fun _ _ _ h => h) (Or.inl ⟨by rfl, ?_⟩) hS ?_
        · rintro W ⟨⟨hW1, hW2⟩, hW3, hW4⟩
          go_simp
        simp only [Act.put]
        refine wpAnyH_take (i := 6) (v := .agg #[.slice B n2 d]) rfl (by kernel_rfl) (by kernel_rfl) (by kernel_rfl) (fun _ _ _ h => h) (Or.inl ⟨by rfl, ?_⟩) hS ?_
        · rintro W ⟨⟨hW1, hW2⟩, hW3, hW4⟩
          go_simp
        simp only [Act.put]
        refine wpAnyH_ready (rs := [7]) (by kernel_rfl) (by simp) ?_
        refine AllReadyH.cons rfl (fun K hK => ?_) .nil
        go_simp
        refine (HSM.out w4.drew (below_next HB4.out hdr)).mono ?_
        rintro e w5 ⟨rfl, hb5⟩
        rw [HDD.out]
        have hb5' := below_next hdr hb5
        have HB5 := Lib.hid (below_next HB4.out hb5')
        have hS5 := HS.out w5 hb5'
        refine hK.out _ _ hS5 (fun _ => ?_)
        clear hK hb5 hS
        refine wpAnyH_ready (rs := [8]) (by kernel_rfl) (by simp) ?_
        refine AllReadyH.cons rfl (fun K hK => ?_) .nil
        go_simp
        refine hK.out _ _ hS5 (fun _ => ?_)
        clear hK
        refine wpAnyH_ready (rs := [9]) (by kernel_rfl) (by simp) ?_
        refine AllReadyH.cons rfl (fun K hK => ?_) .nil
        go_simp
        refine hK.out _ _ hS5 (fun _ => ?_)
        clear hK
        refine wpAnyH_ready (rs := [10]) (by kernel_rfl) (by simp) ?_
        refine AllReadyH.cons rfl (fun K hK => ?_) .nil
        go_simp
        refine (works_good (HE.out.below HB5.out)).mono ?_
        rintro e w6 ⟨rfl, hb6⟩
        have HB6 := Lib.hid (below_next HB5.out hb6)
        have hS6 := HS.out w6 (below_next hb5' hb6)
        refine hK.out _ _ hS6 (fun _ => ?_)
        clear hK hb6 hS5
        refine wpAnyH_ready (rs := [11]) (by kernel_rfl) (by simp) ?_
        refine AllReadyH.cons rfl (fun K hK => ?_) .nil
        go_simp
        refine hK.out _ _ hS6 (fun _ => ?_)
        clear hK
        refine wpAnyH_ready (rs := [12]) (by kernel_rfl) (by simp) ?_
        refine AllReadyH.cons rfl (fun K hK => ?_) .nil
        go_simp
        refine hK.out _ _ hS6 (fun _ => ?_)
        clear hK
        refine wpAnyH_done (by kernel_rfl) ?_ _
        clear hS6 hb5' hdr
        go_wp2_with fail
        go_ret
        exact ⟨rfl, HB6.out⟩
      case true =>
        have HDD : Hid (decide (sameG (gns l) (gns m)) = true) := Lib.hid (by rw [← HSS.out, hsb])
        go_wp2_with fail
        have hdr : Below w4.heap.size w4 w4.drew := ⟨rfl, rfl, rfl, Nat.le_refl _, fun _ _ => rfl⟩
        refine wp_region_held_drew (S := fun W => (W.cell? ⟨w.heap.size, 0, none⟩ = some (.slice A n1 c) ∧ W.cell? ⟨w.heap.size + 1, 0, none⟩ = some (.slice B n2 d)) ∧ (convert 30 9 (.slice A1 m1 c1)).run Tryz.prog W = .ok (.string ⟨T1.toArray⟩) W ∧ (convert 30 9 (.slice A2 m2 c2)).run Tryz.prog W = .ok (.string ⟨T2.toArray⟩) W) (by kernel_rfl) (HS.out _ hdr) (fun hS => ?_)
        refine wpAnyH_take (i := 0) (v := .slice A1 m1 c1) rfl (by kernel_rfl) (by kernel_rfl) (by kernel_rfl) (fun _ _ _ h => h) (Or.inl ⟨by rfl, ?_⟩) hS ?_
        · rintro W ⟨⟨hW1, hW2⟩, hW3, hW4⟩
          go_simp
        simp only [Act.put, List.setIfInBounds_toArray]
        refine wpAnyH_take (i := 1) (v := .string ⟨T1.toArray⟩) rfl (by kernel_rfl) (by kernel_rfl) (by kernel_rfl) (fun _ _ _ h => h) (Or.inl ⟨by rfl, ?_⟩) hS ?_
        · rintro W ⟨⟨hW1, hW2⟩, hW3, hW4⟩
          go_simp
        simp only [Act.put]
        refine wpAnyH_take (i := 2) (v := .slice A2 m2 c2) rfl (by kernel_rfl) (by kernel_rfl) (by kernel_rfl) (fun _ _ _ h => h) (Or.inl ⟨by rfl, ?_⟩) hS ?_
        · rintro W ⟨⟨hW1, hW2⟩, hW3, hW4⟩
          go_simp
        simp only [Act.put]
        refine wpAnyH_take (i := 3) (v := .string ⟨T2.toArray⟩) rfl (by kernel_rfl) (by kernel_rfl) (by kernel_rfl) (fun _ _ _ h => h) (Or.inl ⟨by rfl, ?_⟩) hS ?_
        · rintro W ⟨⟨hW1, hW2⟩, hW3, hW4⟩
          go_simp
        simp only [Act.put]
        refine wpAnyH_take (i := 4) (v := .bool true) rfl (by kernel_rfl) (by kernel_rfl) (by kernel_rfl) (fun _ _ _ h => h) (Or.inl ⟨by rfl, ?_⟩) hS ?_
        · rintro W ⟨⟨hW1, hW2⟩, hW3, hW4⟩
          go_simp
        simp only [Act.put]
        refine wpAnyH_take (i := 5) (v := .agg #[.slice A n1 c]) rfl (by kernel_rfl) (by kernel_rfl) (by kernel_rfl) (fun _ _ _ h => h) (Or.inl ⟨by rfl, ?_⟩) hS ?_
        · rintro W ⟨⟨hW1, hW2⟩, hW3, hW4⟩
          go_simp
        simp only [Act.put]
        refine wpAnyH_take (i := 6) (v := .agg #[.slice B n2 d]) rfl (by kernel_rfl) (by kernel_rfl) (by kernel_rfl) (fun _ _ _ h => h) (Or.inl ⟨by rfl, ?_⟩) hS ?_
        · rintro W ⟨⟨hW1, hW2⟩, hW3, hW4⟩
          go_simp
        simp only [Act.put]
        refine wpAnyH_ready (rs := [7]) (by kernel_rfl) (by simp) ?_
        refine AllReadyH.cons rfl (fun K hK => ?_) .nil
        go_simp
        refine (HSM.out w4.drew (below_next HB4.out hdr)).mono ?_
        rintro e w5 ⟨rfl, hb5⟩
        rw [HDD.out]
        have hb5' := below_next hdr hb5
        have HB5 := Lib.hid (below_next HB4.out hb5')
        have hS5 := HS.out w5 hb5'
        refine hK.out _ _ hS5 (fun _ => ?_)
        clear hK hb5 hS
        refine wpAnyH_ready (rs := [8]) (by kernel_rfl) (by simp) ?_
        refine AllReadyH.cons rfl (fun K hK => ?_) .nil
        go_simp
        refine hK.out _ _ hS5 (fun _ => ?_)
        clear hK
        refine wpAnyH_ready (rs := [9]) (by kernel_rfl) (by simp) ?_
        refine AllReadyH.cons rfl (fun K hK => ?_) .nil
        go_simp
        refine hK.out _ _ hS5 (fun _ => ?_)
        clear hK
        refine wpAnyH_ready (rs := [10]) (by kernel_rfl) (by simp) ?_
        refine AllReadyH.cons rfl (fun K hK => ?_) .nil
        go_simp
        refine (works_good (HE.out.below HB5.out)).mono ?_
        rintro e w6 ⟨rfl, hb6⟩
        have HB6 := Lib.hid (below_next HB5.out hb6)
        have hS6 := HS.out w6 (below_next hb5' hb6)
        refine hK.out _ _ hS6 (fun _ => ?_)
        clear hK hb6 hS5
        refine wpAnyH_ready (rs := [11]) (by kernel_rfl) (by simp) ?_
        refine AllReadyH.cons rfl (fun K hK => ?_) .nil
        go_simp
        refine hK.out _ _ hS6 (fun _ => ?_)
        clear hK
        refine wpAnyH_ready (rs := [12]) (by kernel_rfl) (by simp) ?_
        refine AllReadyH.cons rfl (fun K hK => ?_) .nil
        go_simp
        refine hK.out _ _ hS6 (fun _ => ?_)
        clear hK
        refine wpAnyH_done (by kernel_rfl) ?_ _
        clear hS6 hb5' hdr
        go_wp2_with fail
        go_ret
        exact ⟨rfl, HB6.out⟩
theorem unlike_any (A B : Option Addr) (c d : Nat) (l m : List PV) (w : World) (hA : NodR w A l) (hB : NodR w B m) (he : EnvP w) :
    Calls Tryz.prog 6 #[.agg #[.slice A l.length c], .agg #[.slice B m.length d]] w fun e w' => e = .returned (.bool true) ∧ Below w.heap.size w w' := by
  cases h1 : fewB (gns l) 200 with
  | false => exact unlike_few A B c d l m w hA hB he (Or.inl h1)
  | true =>
    cases h2 : fewB (gns m) 200 with
    | false => exact unlike_few A B c d l m w hA hB he (Or.inr h2)
    | true => exact unlike_yes A B c d l m w hA hB he h1 h2
end Go.Proofs.YtkkeocnnecegbaaGreatDoor
