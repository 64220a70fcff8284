/- The walk over ParseSame; its region's orders printed by mk_psame.py. By an AI agent. -/
import Derived.Test.YtkkeocnnecegbaaGreatDoorPzG
namespace Go.Proofs.YtkkeocnnecegbaaGreatDoor
open Go.RowKit

set_option maxRecDepth 100000 in
set_option maxHeartbeats 16000000 in
theorem lsame_few (A B : Option Addr) (c d : Nat) (l m : List PV) (w : World) (hA : NodR w A l) (hB : NodR w B m) (he : EnvP w) (hno : fewB (gns l) 200 = false ∨ fewB (gns m) 200 = false) :
    Calls Tryz.prog 4 #[.agg #[.slice A l.length c], .agg #[.slice B m.length d]] w fun e w' => e = .returned (.bool true) ∧ Below w.heap.size w w' := by
  have hb0 : Below w.heap.size w ((w.alloc (.cells #[.slice A l.length c] 24)).alloc (.cells #[.slice B m.length d] 24)) := ((Below.refl _ _).alloc (Nat.le_refl _) _).alloc (by simp) _
  have HF1 := Lib.hid (few_any A c 200 l _ (hA.below hb0) (by decide))
  have HF2 := Lib.hid (fun W hb => few_any B d 200 m W (hB.below hb) (by decide))
  have HX2 : Hid (Blk ((w.alloc (.cells #[.slice A l.length c] 24)).alloc (.cells #[.slice B m.length d] 24)) (w.heap.size + 1) 24 #[.slice B m.length d]) := Lib.hid (blk_at _ _ _ _ (by simp))
  have HB0 := Lib.hid hb0; have HE := Lib.hid he
  obtain ⟨n1, hn1⟩ : ∃ n, n = l.length := ⟨_, rfl⟩
  obtain ⟨n2, hn2⟩ : ∃ n, n = m.length := ⟨_, rfl⟩
  rw [← hn1] at HF1 HB0 HX2 ⊢
  rw [← hn2] at HF1 HF2 HB0 HX2 ⊢
  clear hA hB he hb0 hn1 hn2
  go_enter Tryz.func4, Tryz.ntmps4
  go_wp2_with fail
  refine HF1.out.mono ?_
  rintro e w1 ⟨rfl, hb1⟩
  have HB1 := Lib.hid (below_next HB0.out hb1)
  have hx2 := HX2.out.below hb1
  have c0 : w1.cell? ⟨w.heap.size + 1, 0, none⟩ = some (.slice B n2 d) := hx2.cell 0
  have lc0 := cell_lt' c0
  have HF := Lib.hid (HF2.out w1 HB1.out)
  clear hb1 hx2
  cases hf : fewB (gns l) 200 with
  | false =>
    go_wp2_with fail
    refine (works_good (HE.out.below HB1.out)).mono ?_
    rintro e w2 ⟨rfl, hb2⟩
    have HB2 := Lib.hid (below_next HB1.out hb2)
    clear hb2
    go_wp2_with fail
    go_ret
    exact ⟨rfl, HB2.out⟩
  | true =>
    have hf2 : fewB (gns m) 200 = false := by rcases hno with h | h; rw [hf] at h; cases h; exact h
    rw [hf2] at HF
    clear hno hf hf2
    go_wp2_with fail
    refine HF.out.mono ?_
    rintro e w2 ⟨rfl, hb2⟩
    have HB2 := Lib.hid (below_next HB1.out hb2)
    clear hb2
    go_wp2_with fail
    refine (works_good (HE.out.below HB2.out)).mono ?_
    rintro e w3 ⟨rfl, hb3⟩
    have HB3 := Lib.hid (below_next HB2.out hb3)
    clear hb3
    go_wp2_with fail
    go_ret
    exact ⟨rfl, HB3.out⟩

set_option maxRecDepth 100000 in
set_option maxHeartbeats 64000000 in
theorem lsame_no (A B : Option Addr) (c d : Nat) (l m : List PV) (w : World) (hA : NodR w A l) (hB : NodR w B m) (he : EnvP w) (hf1 : fewB (gns l) 200 = true) (hf2 : fewB (gns m) 200 = true) (hD : decide (sameG (gns l) (gns m)) = false) :
    Calls Tryz.prog 4 #[.agg #[.slice A l.length c], .agg #[.slice B m.length d]] w fun e w' => e = .returned (.bool true) ∧ Below w.heap.size w w' := by
  obtain ⟨t1, k1, _⟩ := few_asks hA he hf1
  obtain ⟨t2, k2, _⟩ := few_asks hB he hf2
  have hb0 : Below w.heap.size w ((w.alloc (.cells #[.slice A l.length c] 24)).alloc (.cells #[.slice B m.length d] 24)) := ((Below.refl _ _).alloc (Nat.le_refl _) _).alloc (by simp) _
  have hq1 := few_any A c 200 l _ (hA.below hb0) (by decide)
  rw [hf1] at hq1
  have hq2 := fun W hb => few_any B d 200 m W (hB.below hb) (by decide)
  rw [hf2] at hq2
  have hsm := fun W (hb : Below w.heap.size w W) => same_any A B c d l m W (hA.below hb) (hB.below hb) t1.len t2.len (fun g hg => (k1 g hg).1) (fun g hg => (k2 g hg).1)
  have hsa := fun W (hb : Below w.heap.size w W) => same_any A A c c l l W (hA.below hb) (hA.below hb) t1.len t1.len (fun g hg => (k1 g hg).1) (fun g hg => (k1 g hg).1)
  have hrs := fun W A' c' B' d' (hx : NodR W A' l) (hy : NodR W B' m) => rsame_any A' B' c' d' l m W hx hy t1.len t2.len (fun g hg => (k1 g hg).1) (fun g hg => (k2 g hg).1)
  rw [hD] at hsm hrs
  have hda : decide (sameG (gns l) (gns l)) = true := decide_eq_true (sameG_refl _)
  rw [hda] at hsa
  have HP1 := Lib.hid (fun W (hb : Below w.heap.size w W) => plain_any A c l W (hA.below hb) t1.len)
  have HP2 := Lib.hid (fun W (hb : Below w.heap.size w W) => plain_any B d m W (hB.below hb) t2.len)
  have HF1 := Lib.hid hq1; have HF2 := Lib.hid hq2; have HSM := Lib.hid hsm; have HSA := Lib.hid hsa; have HRS := Lib.hid hrs
  have HX1 : Hid (Blk ((w.alloc (.cells #[.slice A l.length c] 24)).alloc (.cells #[.slice B m.length d] 24)) w.heap.size 24 #[.slice A l.length c]) := Lib.hid ((Blk.new w 24 _).alloc _)
  have HX2 : Hid (Blk ((w.alloc (.cells #[.slice A l.length c] 24)).alloc (.cells #[.slice B m.length d] 24)) (w.heap.size + 1) 24 #[.slice B m.length d]) := Lib.hid (blk_at _ _ _ _ (by simp))
  have HB0 := Lib.hid hb0; have HE := Lib.hid he
  obtain ⟨n1, hn1⟩ : ∃ n, n = l.length := ⟨_, rfl⟩
  obtain ⟨n2, hn2⟩ : ∃ n, n = m.length := ⟨_, rfl⟩
  rw [← hn1] at HF1 HB0 HX1 HX2 HSM HSA HP1 HRS ⊢
  rw [← hn2] at HF1 HF2 HB0 HX1 HX2 HSM HP2 HRS ⊢
  clear hA hB he hb0 hn1 hn2 t1 k1 t2 k2 hq1 hq2 hf1 hf2 hsm hsa hrs hda hD
  go_enter Tryz.func4, Tryz.ntmps4
  go_wp2_with fail
  refine HF1.out.mono ?_
  rintro e w1 ⟨rfl, hb1⟩
  have HB1 := Lib.hid (below_next HB0.out hb1)
  have HY1 := Lib.hid (HX1.out.below hb1); have HY2 := Lib.hid (HX2.out.below hb1)
  have c2 : w1.cell? ⟨w.heap.size + 1, 0, none⟩ = some (.slice B n2 d) := HY2.out.cell 0
  have lc2 := cell_lt' c2
  clear hb1 HX1 HX2
  go_wp2_with fail
  refine (HF2.out w1 HB1.out).mono ?_
  rintro e w2 ⟨rfl, hb2⟩
  have HB2 := Lib.hid (below_next HB1.out hb2)
  have HX1 := Lib.hid (HY1.out.below hb2); have HX2 := Lib.hid (HY2.out.below hb2)
  clear c2 lc2 hb2 HY1 HY2
  have HS : Hid (∀ W, Below w2.heap.size w2 W → W.cell? ⟨w.heap.size, 0, none⟩ = some (.slice A n1 c) ∧ W.cell? ⟨w.heap.size + 1, 0, none⟩ = some (.slice B n2 d)) := Lib.hid (fun W hb => ⟨(HX1.out.below hb).cell 0, (HX2.out.below hb).cell 0⟩)
  clear HX1 HX2
  go_wp2_with fail
  have HR0 := Lib.hid (show Below w2.heap.size w2 w2.drew from ⟨rfl, rfl, rfl, Nat.le_refl _, fun _ _ => rfl⟩)
  refine wp_region_held_drew (S := fun W => W.cell? ⟨w.heap.size, 0, none⟩ = some (.slice A n1 c) ∧ W.cell? ⟨w.heap.size + 1, 0, none⟩ = some (.slice B n2 d)) (by kernel_rfl) (HS.out _ HR0.out) (fun hS => ?_)
  refine wpAnyH_take (i := 0) (v := .agg #[.slice A n1 c]) rfl (by kernel_rfl) (by kernel_rfl) (by kernel_rfl) (fun _ _ _ h => h) (Or.inl ⟨by rfl, ?_⟩) hS ?_
  · rintro W ⟨hW1, hW2⟩
    go_simp
  simp only [Act.put, List.setIfInBounds_toArray]
  refine wpAnyH_take (i := 1) (v := .agg #[.slice B n2 d]) rfl (by kernel_rfl) (by kernel_rfl) (by kernel_rfl) (fun _ _ _ h => h) (Or.inl ⟨by rfl, ?_⟩) hS ?_
  · rintro W ⟨hW1, hW2⟩
    go_simp
  simp only [Act.put]
  refine wpAnyH_take (i := 3) (v := .agg #[.slice A n1 c]) rfl (by kernel_rfl) (by kernel_rfl) (by kernel_rfl) (fun _ _ _ h => h) (Or.inl ⟨by rfl, ?_⟩) hS ?_
  · rintro W ⟨hW1, hW2⟩
    go_simp
  simp only [Act.put]
  refine wpAnyH_take (i := 5) (v := .agg #[.slice B n2 d]) rfl (by kernel_rfl) (by kernel_rfl) (by kernel_rfl) (fun _ _ _ h => h) (Or.inl ⟨by rfl, ?_⟩) hS ?_
  · rintro W ⟨hW1, hW2⟩
    go_simp
  simp only [Act.put]
  clear hS
  refine wpAnyH_ready (rs := [2]) (by kernel_rfl) (by simp) ?_
  refine AllReadyH.cons rfl (fun K hK => ?_) .nil
  go_simp
  refine (HSM.out w2.drew (below_next HB2.out HR0.out)).mono ?_
  rintro e u1 ⟨rfl, hb⟩
  have HR1 := Lib.hid (below_next HR0.out hb)
  clear hb
  refine hK.out _ _ (HS.out _ HR1.out) (fun _ => ?_)
  clear hK
  refine wpAnyH_ready (rs := [4]) (by kernel_rfl) (by simp) ?_
  refine AllReadyH.cons rfl (fun K hK => ?_) .nil
  go_simp
  refine (HP1.out u1 (below_next HB2.out HR1.out)).mono ?_
  rintro e u2 ⟨A1, c1, rfl, _, hnd, hb⟩
  have HN1 := Lib.hid hnd
  clear hnd
  have HR2 := Lib.hid (below_next HR1.out hb)
  clear hb
  refine hK.out _ _ (HS.out _ HR2.out) (fun _ => ?_)
  clear hK
  refine wpAnyH_ready (rs := [6]) (by kernel_rfl) (by simp) ?_
  refine AllReadyH.cons rfl (fun K hK => ?_) .nil
  go_simp
  refine (HP2.out u2 (below_next HB2.out HR2.out)).mono ?_
  rintro e u3 ⟨A2, c2, rfl, _, hnd, hb⟩
  replace HN1 := Lib.hid (HN1.out.below hb)
  have HN2 := Lib.hid hnd
  clear hnd
  have HR3 := Lib.hid (below_next HR2.out hb)
  clear hb
  refine hK.out _ _ (HS.out _ HR3.out) (fun _ => ?_)
  clear hK
  refine wpAnyH_ready (rs := [7]) (by kernel_rfl) (by simp) ?_
  refine AllReadyH.cons rfl (fun K hK => ?_) .nil
  go_simp
  refine (HRS.out u3 A1 c1 A2 c2 HN1.out HN2.out).mono ?_
  rintro e u4 ⟨rfl, hb⟩
  replace HN1 := Lib.hid (HN1.out.below hb)
  replace HN2 := Lib.hid (HN2.out.below hb)
  have HR4 := Lib.hid (below_next HR3.out hb)
  clear hb
  refine hK.out _ _ (HS.out _ HR4.out) (fun _ => ?_)
  clear hK
  refine wpAnyH_ready (rs := [8]) (by kernel_rfl) (by simp) ?_
  refine AllReadyH.cons rfl (fun K hK => ?_) .nil
  go_simp
  refine hK.out _ _ (HS.out _ HR4.out) (fun _ => ?_)
  clear hK
  refine wpAnyH_ready (rs := [9]) (by kernel_rfl) (by simp) ?_
  refine AllReadyH.cons rfl (fun K hK => ?_) .nil
  go_simp
  refine hK.out _ _ (HS.out _ HR4.out) (fun _ => ?_)
  clear hK
  refine wpAnyH_ready (rs := [10, 11]) (by kernel_rfl) (by simp) ?_
  refine AllReadyH.cons rfl (fun K hK => ?_) (AllReadyH.cons rfl (fun K hK => ?_) .nil)
  · go_simp
    refine hK.out _ _ (HS.out _ HR4.out) (fun _ => ?_)
    clear hK
    refine wpAnyH_ready (rs := [11]) (by kernel_rfl) (by simp) ?_
    refine AllReadyH.cons rfl (fun K hK => ?_) .nil
    go_simp
    refine hK.out _ _ (HS.out _ HR4.out) (fun _ => ?_)
    clear hK
    refine wpAnyH_ready (rs := [12]) (by kernel_rfl) (by simp) ?_
    refine AllReadyH.cons rfl (fun K hK => ?_) .nil
    go_simp
    refine (HSA.out u4 (below_next HB2.out HR4.out)).mono ?_
    rintro e u5 ⟨rfl, hb⟩
    replace HN1 := Lib.hid (HN1.out.below hb)
    replace HN2 := Lib.hid (HN2.out.below hb)
    have HR5 := Lib.hid (below_next HR4.out hb)
    clear hb
    refine hK.out _ _ (HS.out _ HR5.out) (fun _ => ?_)
    clear hK
    refine wpAnyH_ready (rs := [13]) (by kernel_rfl) (by simp) ?_
    refine AllReadyH.cons rfl (fun K hK => ?_) .nil
    go_simp
    refine hK.out _ _ (HS.out _ HR5.out) (fun _ => ?_)
    clear hK
    refine wpAnyH_ready (rs := [14]) (by kernel_rfl) (by simp) ?_
    refine AllReadyH.cons rfl (fun K hK => ?_) .nil
    go_simp
    refine hK.out _ _ (HS.out _ HR5.out) (fun _ => ?_)
    clear hK
    refine wpAnyH_ready (rs := [15]) (by kernel_rfl) (by simp) ?_
    refine AllReadyH.cons rfl (fun K hK => ?_) .nil
    go_simp
    refine (works_good (HE.out.below (below_next HB2.out HR5.out))).mono ?_
    rintro e u6 ⟨rfl, hb⟩
    replace HN1 := Lib.hid (HN1.out.below hb)
    replace HN2 := Lib.hid (HN2.out.below hb)
    have HR6 := Lib.hid (below_next HR5.out hb)
    clear hb
    refine hK.out _ _ (HS.out _ HR6.out) (fun _ => ?_)
    clear hK
    refine wpAnyH_ready (rs := [16]) (by kernel_rfl) (by simp) ?_
    refine AllReadyH.cons rfl (fun K hK => ?_) .nil
    go_simp
    refine hK.out _ _ (HS.out _ HR6.out) (fun _ => ?_)
    clear hK
    refine wpAnyH_ready (rs := [17]) (by kernel_rfl) (by simp) ?_
    refine AllReadyH.cons rfl (fun K hK => ?_) .nil
    go_simp
    refine hK.out _ _ (HS.out _ HR6.out) (fun _ => ?_)
    clear hK
    refine wpAnyH_done (by kernel_rfl) ?_ _
    go_wp2_with fail
    go_ret
    exact ⟨rfl, below_next HB2.out HR6.out⟩
  · go_simp
    refine hK.out _ _ (HS.out _ HR4.out) (fun _ => ?_)
    clear hK
    refine wpAnyH_ready (rs := [10]) (by kernel_rfl) (by simp) ?_
    refine AllReadyH.cons rfl (fun K hK => ?_) .nil
    go_simp
    refine hK.out _ _ (HS.out _ HR4.out) (fun _ => ?_)
    clear hK
    refine wpAnyH_ready (rs := [12]) (by kernel_rfl) (by simp) ?_
    refine AllReadyH.cons rfl (fun K hK => ?_) .nil
    go_simp
    refine (HSA.out u4 (below_next HB2.out HR4.out)).mono ?_
    rintro e u5 ⟨rfl, hb⟩
    replace HN1 := Lib.hid (HN1.out.below hb)
    replace HN2 := Lib.hid (HN2.out.below hb)
    have HR5 := Lib.hid (below_next HR4.out hb)
    clear hb
    refine hK.out _ _ (HS.out _ HR5.out) (fun _ => ?_)
    clear hK
    refine wpAnyH_ready (rs := [13]) (by kernel_rfl) (by simp) ?_
    refine AllReadyH.cons rfl (fun K hK => ?_) .nil
    go_simp
    refine hK.out _ _ (HS.out _ HR5.out) (fun _ => ?_)
    clear hK
    refine wpAnyH_ready (rs := [14]) (by kernel_rfl) (by simp) ?_
    refine AllReadyH.cons rfl (fun K hK => ?_) .nil
    go_simp
    refine hK.out _ _ (HS.out _ HR5.out) (fun _ => ?_)
    clear hK
    refine wpAnyH_ready (rs := [15]) (by kernel_rfl) (by simp) ?_
    refine AllReadyH.cons rfl (fun K hK => ?_) .nil
    go_simp
    refine (works_good (HE.out.below (below_next HB2.out HR5.out))).mono ?_
    rintro e u6 ⟨rfl, hb⟩
    replace HN1 := Lib.hid (HN1.out.below hb)
    replace HN2 := Lib.hid (HN2.out.below hb)
    have HR6 := Lib.hid (below_next HR5.out hb)
    clear hb
    refine hK.out _ _ (HS.out _ HR6.out) (fun _ => ?_)
    clear hK
    refine wpAnyH_ready (rs := [16]) (by kernel_rfl) (by simp) ?_
    refine AllReadyH.cons rfl (fun K hK => ?_) .nil
    go_simp
    refine hK.out _ _ (HS.out _ HR6.out) (fun _ => ?_)
    clear hK
    refine wpAnyH_ready (rs := [17]) (by kernel_rfl) (by simp) ?_
    refine AllReadyH.cons rfl (fun K hK => ?_) .nil
    go_simp
    refine hK.out _ _ (HS.out _ HR6.out) (fun _ => ?_)
    clear hK
    refine wpAnyH_done (by kernel_rfl) ?_ _
    go_wp2_with fail
    go_ret
    exact ⟨rfl, below_next HB2.out HR6.out⟩

set_option maxRecDepth 100000 in
set_option maxHeartbeats 64000000 in
theorem lsame_yes (A B : Option Addr) (c d : Nat) (l m : List PV) (w : World) (hA : NodR w A l) (hB : NodR w B m) (he : EnvP w) (hf1 : fewB (gns l) 200 = true) (hf2 : fewB (gns m) 200 = true) (hD : decide (sameG (gns l) (gns m)) = true) :
    Calls Tryz.prog 4 #[.agg #[.slice A l.length c], .agg #[.slice B m.length d]] w fun e w' => e = .returned (.bool true) ∧ Below w.heap.size w w' := by
  obtain ⟨t1, k1, _⟩ := few_asks hA he hf1
  obtain ⟨t2, k2, _⟩ := few_asks hB he hf2
  have hb0 : Below w.heap.size w ((w.alloc (.cells #[.slice A l.length c] 24)).alloc (.cells #[.slice B m.length d] 24)) := ((Below.refl _ _).alloc (Nat.le_refl _) _).alloc (by simp) _
  have hq1 := few_any A c 200 l _ (hA.below hb0) (by decide)
  rw [hf1] at hq1
  have hq2 := fun W hb => few_any B d 200 m W (hB.below hb) (by decide)
  rw [hf2] at hq2
  have hsm := fun W (hb : Below w.heap.size w W) => same_any A B c d l m W (hA.below hb) (hB.below hb) t1.len t2.len (fun g hg => (k1 g hg).1) (fun g hg => (k2 g hg).1)
  have hsa := fun W (hb : Below w.heap.size w W) => same_any A A c c l l W (hA.below hb) (hA.below hb) t1.len t1.len (fun g hg => (k1 g hg).1) (fun g hg => (k1 g hg).1)
  have hrs := fun W A' c' B' d' (hx : NodR W A' l) (hy : NodR W B' m) => rsame_any A' B' c' d' l m W hx hy t1.len t2.len (fun g hg => (k1 g hg).1) (fun g hg => (k2 g hg).1)
  rw [hD] at hsm hrs
  have hda : decide (sameG (gns l) (gns l)) = true := decide_eq_true (sameG_refl _)
  rw [hda] at hsa
  have HP1 := Lib.hid (fun W (hb : Below w.heap.size w W) => plain_any A c l W (hA.below hb) t1.len)
  have HP2 := Lib.hid (fun W (hb : Below w.heap.size w W) => plain_any B d m W (hB.below hb) t2.len)
  have HF1 := Lib.hid hq1; have HF2 := Lib.hid hq2; have HSM := Lib.hid hsm; have HSA := Lib.hid hsa; have HRS := Lib.hid hrs
  have HX1 : Hid (Blk ((w.alloc (.cells #[.slice A l.length c] 24)).alloc (.cells #[.slice B m.length d] 24)) w.heap.size 24 #[.slice A l.length c]) := Lib.hid ((Blk.new w 24 _).alloc _)
  have HX2 : Hid (Blk ((w.alloc (.cells #[.slice A l.length c] 24)).alloc (.cells #[.slice B m.length d] 24)) (w.heap.size + 1) 24 #[.slice B m.length d]) := Lib.hid (blk_at _ _ _ _ (by simp))
  have HB0 := Lib.hid hb0; have HE := Lib.hid he
  obtain ⟨n1, hn1⟩ : ∃ n, n = l.length := ⟨_, rfl⟩
  obtain ⟨n2, hn2⟩ : ∃ n, n = m.length := ⟨_, rfl⟩
  rw [← hn1] at HF1 HB0 HX1 HX2 HSM HSA HP1 HRS ⊢
  rw [← hn2] at HF1 HF2 HB0 HX1 HX2 HSM HP2 HRS ⊢
  clear hA hB he hb0 hn1 hn2 t1 k1 t2 k2 hq1 hq2 hf1 hf2 hsm hsa hrs hda hD
  go_enter Tryz.func4, Tryz.ntmps4
  go_wp2_with fail
  refine HF1.out.mono ?_
  rintro e w1 ⟨rfl, hb1⟩
  have HB1 := Lib.hid (below_next HB0.out hb1)
  have HY1 := Lib.hid (HX1.out.below hb1); have HY2 := Lib.hid (HX2.out.below hb1)
  have c2 : w1.cell? ⟨w.heap.size + 1, 0, none⟩ = some (.slice B n2 d) := HY2.out.cell 0
  have lc2 := cell_lt' c2
  clear hb1 HX1 HX2
  go_wp2_with fail
  refine (HF2.out w1 HB1.out).mono ?_
  rintro e w2 ⟨rfl, hb2⟩
  have HB2 := Lib.hid (below_next HB1.out hb2)
  have HX1 := Lib.hid (HY1.out.below hb2); have HX2 := Lib.hid (HY2.out.below hb2)
  clear c2 lc2 hb2 HY1 HY2
  have HS : Hid (∀ W, Below w2.heap.size w2 W → W.cell? ⟨w.heap.size, 0, none⟩ = some (.slice A n1 c) ∧ W.cell? ⟨w.heap.size + 1, 0, none⟩ = some (.slice B n2 d)) := Lib.hid (fun W hb => ⟨(HX1.out.below hb).cell 0, (HX2.out.below hb).cell 0⟩)
  clear HX1 HX2
  go_wp2_with fail
  have HR0 := Lib.hid (show Below w2.heap.size w2 w2.drew from ⟨rfl, rfl, rfl, Nat.le_refl _, fun _ _ => rfl⟩)
  refine wp_region_held_drew (S := fun W => W.cell? ⟨w.heap.size, 0, none⟩ = some (.slice A n1 c) ∧ W.cell? ⟨w.heap.size + 1, 0, none⟩ = some (.slice B n2 d)) (by kernel_rfl) (HS.out _ HR0.out) (fun hS => ?_)
  refine wpAnyH_take (i := 0) (v := .agg #[.slice A n1 c]) rfl (by kernel_rfl) (by kernel_rfl) (by kernel_rfl) (fun _ _ _ h => h) (Or.inl ⟨by rfl, ?_⟩) hS ?_
  · rintro W ⟨hW1, hW2⟩
    go_simp
  simp only [Act.put, List.setIfInBounds_toArray]
  refine wpAnyH_take (i := 1) (v := .agg #[.slice B n2 d]) rfl (by kernel_rfl) (by kernel_rfl) (by kernel_rfl) (fun _ _ _ h => h) (Or.inl ⟨by rfl, ?_⟩) hS ?_
  · rintro W ⟨hW1, hW2⟩
    go_simp
  simp only [Act.put]
  refine wpAnyH_take (i := 3) (v := .agg #[.slice A n1 c]) rfl (by kernel_rfl) (by kernel_rfl) (by kernel_rfl) (fun _ _ _ h => h) (Or.inl ⟨by rfl, ?_⟩) hS ?_
  · rintro W ⟨hW1, hW2⟩
    go_simp
  simp only [Act.put]
  refine wpAnyH_take (i := 5) (v := .agg #[.slice B n2 d]) rfl (by kernel_rfl) (by kernel_rfl) (by kernel_rfl) (fun _ _ _ h => h) (Or.inl ⟨by rfl, ?_⟩) hS ?_
  · rintro W ⟨hW1, hW2⟩
    go_simp
  simp only [Act.put]
  clear hS
  refine wpAnyH_ready (rs := [2]) (by kernel_rfl) (by simp) ?_
  refine AllReadyH.cons rfl (fun K hK => ?_) .nil
  go_simp
  refine (HSM.out w2.drew (below_next HB2.out HR0.out)).mono ?_
  rintro e u1 ⟨rfl, hb⟩
  have HR1 := Lib.hid (below_next HR0.out hb)
  clear hb
  refine hK.out _ _ (HS.out _ HR1.out) (fun _ => ?_)
  clear hK
  refine wpAnyH_ready (rs := [4]) (by kernel_rfl) (by simp) ?_
  refine AllReadyH.cons rfl (fun K hK => ?_) .nil
  go_simp
  refine (HP1.out u1 (below_next HB2.out HR1.out)).mono ?_
  rintro e u2 ⟨A1, c1, rfl, _, hnd, hb⟩
  have HN1 := Lib.hid hnd
  clear hnd
  have HR2 := Lib.hid (below_next HR1.out hb)
  clear hb
  refine hK.out _ _ (HS.out _ HR2.out) (fun _ => ?_)
  clear hK
  refine wpAnyH_ready (rs := [6]) (by kernel_rfl) (by simp) ?_
  refine AllReadyH.cons rfl (fun K hK => ?_) .nil
  go_simp
  refine (HP2.out u2 (below_next HB2.out HR2.out)).mono ?_
  rintro e u3 ⟨A2, c2, rfl, _, hnd, hb⟩
  replace HN1 := Lib.hid (HN1.out.below hb)
  have HN2 := Lib.hid hnd
  clear hnd
  have HR3 := Lib.hid (below_next HR2.out hb)
  clear hb
  refine hK.out _ _ (HS.out _ HR3.out) (fun _ => ?_)
  clear hK
  refine wpAnyH_ready (rs := [7]) (by kernel_rfl) (by simp) ?_
  refine AllReadyH.cons rfl (fun K hK => ?_) .nil
  go_simp
  refine (HRS.out u3 A1 c1 A2 c2 HN1.out HN2.out).mono ?_
  rintro e u4 ⟨rfl, hb⟩
  replace HN1 := Lib.hid (HN1.out.below hb)
  replace HN2 := Lib.hid (HN2.out.below hb)
  have HR4 := Lib.hid (below_next HR3.out hb)
  clear hb
  refine hK.out _ _ (HS.out _ HR4.out) (fun _ => ?_)
  clear hK
  refine wpAnyH_ready (rs := [8]) (by kernel_rfl) (by simp) ?_
  refine AllReadyH.cons rfl (fun K hK => ?_) .nil
  go_simp
  refine hK.out _ _ (HS.out _ HR4.out) (fun _ => ?_)
  clear hK
  refine wpAnyH_ready (rs := [9]) (by kernel_rfl) (by simp) ?_
  refine AllReadyH.cons rfl (fun K hK => ?_) .nil
  go_simp
  refine hK.out _ _ (HS.out _ HR4.out) (fun _ => ?_)
  clear hK
  refine wpAnyH_ready (rs := [10, 11]) (by kernel_rfl) (by simp) ?_
  refine AllReadyH.cons rfl (fun K hK => ?_) (AllReadyH.cons rfl (fun K hK => ?_) .nil)
  · go_simp
    refine hK.out _ _ (HS.out _ HR4.out) (fun _ => ?_)
    clear hK
    refine wpAnyH_ready (rs := [11]) (by kernel_rfl) (by simp) ?_
    refine AllReadyH.cons rfl (fun K hK => ?_) .nil
    go_simp
    refine hK.out _ _ (HS.out _ HR4.out) (fun _ => ?_)
    clear hK
    refine wpAnyH_ready (rs := [12]) (by kernel_rfl) (by simp) ?_
    refine AllReadyH.cons rfl (fun K hK => ?_) .nil
    go_simp
    refine (HSA.out u4 (below_next HB2.out HR4.out)).mono ?_
    rintro e u5 ⟨rfl, hb⟩
    replace HN1 := Lib.hid (HN1.out.below hb)
    replace HN2 := Lib.hid (HN2.out.below hb)
    have HR5 := Lib.hid (below_next HR4.out hb)
    clear hb
    refine hK.out _ _ (HS.out _ HR5.out) (fun _ => ?_)
    clear hK
    refine wpAnyH_ready (rs := [13]) (by kernel_rfl) (by simp) ?_
    refine AllReadyH.cons rfl (fun K hK => ?_) .nil
    go_simp
    refine hK.out _ _ (HS.out _ HR5.out) (fun _ => ?_)
    clear hK
    refine wpAnyH_ready (rs := [14]) (by kernel_rfl) (by simp) ?_
    refine AllReadyH.cons rfl (fun K hK => ?_) .nil
    go_simp
    refine hK.out _ _ (HS.out _ HR5.out) (fun _ => ?_)
    clear hK
    refine wpAnyH_ready (rs := [15]) (by kernel_rfl) (by simp) ?_
    refine AllReadyH.cons rfl (fun K hK => ?_) .nil
    go_simp
    refine (works_good (HE.out.below (below_next HB2.out HR5.out))).mono ?_
    rintro e u6 ⟨rfl, hb⟩
    replace HN1 := Lib.hid (HN1.out.below hb)
    replace HN2 := Lib.hid (HN2.out.below hb)
    have HR6 := Lib.hid (below_next HR5.out hb)
    clear hb
    refine hK.out _ _ (HS.out _ HR6.out) (fun _ => ?_)
    clear hK
    refine wpAnyH_ready (rs := [16]) (by kernel_rfl) (by simp) ?_
    refine AllReadyH.cons rfl (fun K hK => ?_) .nil
    go_simp
    refine hK.out _ _ (HS.out _ HR6.out) (fun _ => ?_)
    clear hK
    refine wpAnyH_ready (rs := [17]) (by kernel_rfl) (by simp) ?_
    refine AllReadyH.cons rfl (fun K hK => ?_) .nil
    go_simp
    refine hK.out _ _ (HS.out _ HR6.out) (fun _ => ?_)
    clear hK
    refine wpAnyH_done (by kernel_rfl) ?_ _
    go_wp2_with fail
    go_ret
    exact ⟨rfl, below_next HB2.out HR6.out⟩
  · go_simp
    refine hK.out _ _ (HS.out _ HR4.out) (fun _ => ?_)
    clear hK
    refine wpAnyH_ready (rs := [10]) (by kernel_rfl) (by simp) ?_
    refine AllReadyH.cons rfl (fun K hK => ?_) .nil
    go_simp
    refine hK.out _ _ (HS.out _ HR4.out) (fun _ => ?_)
    clear hK
    refine wpAnyH_ready (rs := [12]) (by kernel_rfl) (by simp) ?_
    refine AllReadyH.cons rfl (fun K hK => ?_) .nil
    go_simp
    refine (HSA.out u4 (below_next HB2.out HR4.out)).mono ?_
    rintro e u5 ⟨rfl, hb⟩
    replace HN1 := Lib.hid (HN1.out.below hb)
    replace HN2 := Lib.hid (HN2.out.below hb)
    have HR5 := Lib.hid (below_next HR4.out hb)
    clear hb
    refine hK.out _ _ (HS.out _ HR5.out) (fun _ => ?_)
    clear hK
    refine wpAnyH_ready (rs := [13]) (by kernel_rfl) (by simp) ?_
    refine AllReadyH.cons rfl (fun K hK => ?_) .nil
    go_simp
    refine hK.out _ _ (HS.out _ HR5.out) (fun _ => ?_)
    clear hK
    refine wpAnyH_ready (rs := [14]) (by kernel_rfl) (by simp) ?_
    refine AllReadyH.cons rfl (fun K hK => ?_) .nil
    go_simp
    refine hK.out _ _ (HS.out _ HR5.out) (fun _ => ?_)
    clear hK
    refine wpAnyH_ready (rs := [15]) (by kernel_rfl) (by simp) ?_
    refine AllReadyH.cons rfl (fun K hK => ?_) .nil
    go_simp
    refine (works_good (HE.out.below (below_next HB2.out HR5.out))).mono ?_
    rintro e u6 ⟨rfl, hb⟩
    replace HN1 := Lib.hid (HN1.out.below hb)
    replace HN2 := Lib.hid (HN2.out.below hb)
    have HR6 := Lib.hid (below_next HR5.out hb)
    clear hb
    refine hK.out _ _ (HS.out _ HR6.out) (fun _ => ?_)
    clear hK
    refine wpAnyH_ready (rs := [16]) (by kernel_rfl) (by simp) ?_
    refine AllReadyH.cons rfl (fun K hK => ?_) .nil
    go_simp
    refine hK.out _ _ (HS.out _ HR6.out) (fun _ => ?_)
    clear hK
    refine wpAnyH_ready (rs := [17]) (by kernel_rfl) (by simp) ?_
    refine AllReadyH.cons rfl (fun K hK => ?_) .nil
    go_simp
    refine hK.out _ _ (HS.out _ HR6.out) (fun _ => ?_)
    clear hK
    refine wpAnyH_done (by kernel_rfl) ?_ _
    go_wp2_with fail
    go_ret
    exact ⟨rfl, below_next HB2.out HR6.out⟩

theorem lsame_any (A B : Option Addr) (c d : Nat) (l m : List PV) (w : World) (hA : NodR w A l) (hB : NodR w B m) (he : EnvP w) :
    Calls Tryz.prog 4 #[.agg #[.slice A l.length c], .agg #[.slice B m.length d]] w fun e w' => e = .returned (.bool true) ∧ Below w.heap.size w w' := by
  cases h1 : fewB (gns l) 200 with
  | false => exact lsame_few A B c d l m w hA hB he (Or.inl h1)
  | true =>
    cases h2 : fewB (gns m) 200 with
    | false => exact lsame_few A B c d l m w hA hB he (Or.inr h2)
    | true =>
      cases h3 : decide (sameG (gns l) (gns m)) with
      | false => exact lsame_no A B c d l m w hA hB he h1 h2 h3
      | true => exact lsame_yes A B c d l m w hA hB he h1 h2 h3
end Go.Proofs.YtkkeocnnecegbaaGreatDoor
