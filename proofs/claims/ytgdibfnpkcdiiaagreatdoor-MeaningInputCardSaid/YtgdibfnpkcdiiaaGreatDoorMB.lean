/- Joint text: MTop, DoA, MDo, MIns, MInsB. By an AI agent. -/
import Derived.Test.YtgdibfnpkcdiiaaGreatDoorMA
import Derived.Test.YtgdibfnpkcdiiaaGreatDoorJA
import Derived.Deep.DeepCutAuto
import Derived.OwnWalk
import Derived.Test.YtgdibfnpkcdiiaaGreatDoorRows
import Derived.WalkKit
import Derived.WalkSpells
import Derived.WalkLawsBesides
import Derived.BigQuiet
import Derived.Deep.QuietTactic
import Derived.Lib.Hide
import Derived.Laws.Bits128
/- The stack's last frame, one less, one more; a place of an array; an event. By an AI agent. -/
namespace Go.Proofs.YtgdibfnpkcdiiaaGreatDoor
open Go.RowKit

theorem mixedT : Tryz.prog.follows .mixedOrders = true := by kernel_rfl

set_option maxRecDepth 100000 in
set_option maxHeartbeats 4000000 in
theorem top_any (r fb n m cap : Nat) (w : World) (hc : w.cell? ⟨r, 5, none⟩ = some (.slice (some ⟨fb, 0, none⟩) m cap)) (hm : m = n + 1) (hn : n ≤ 1000000) :
    Calls Tryz.prog 71 #[.pointer (some ⟨r, 5, none⟩)] w fun e w' => e = .returned (.pointer (some ⟨fb, n * 8, none⟩)) ∧ Below w.heap.size w w' := by
  have HC := Lib.hid hc
  have HI := Lib.hid (show (n : Int) < (m : Int) by omega)
  have HE := Lib.hid (show IntKind.i64.wrap ((m : Int) - 1) = n from (IntWalk.i64_in _ (by omega)).trans (by omega))
  clear hc hm hn
  go_enter Tryz.func71, Tryz.ntmps71
  go_upto_region 1 with fail
  refine wp_region_valsA [(none, .pointer (some ⟨r, 5, none⟩)), (none, .pointer (some ⟨r, 5, none⟩)), (none, .slice (some ⟨fb, 0, none⟩) m cap), (none, .pointer (some ⟨r, 5, none⟩)), (none, .pointer (some ⟨r, 5, none⟩)), (none, .slice (some ⟨fb, 0, none⟩) m cap), (none, .int .i64 (m : Int)), (none, .int .i64 (n : Int)), (none, .pointer (some ⟨fb, n * 8, none⟩)), (none, .pointer (some ⟨fb, n * 8, none⟩))] mixedT (by kernel_rfl) ?_
  intro FF AA hA hF
  have hL : HasL FF [(0, .pointer (some ⟨r, 5, none⟩)), (3, .pointer (some ⟨r, 5, none⟩)), (4, .pointer (some ⟨r, 5, none⟩)), (5, .slice (some ⟨fb, 0, none⟩) m cap), (6, .pointer (some ⟨r, 5, none⟩)), (7, .pointer (some ⟨r, 5, none⟩)), (8, .slice (some ⟨fb, 0, none⟩) m cap), (9, .int .i64 (m : Int)), (10, .int .i64 (n : Int)), (11, .pointer (some ⟨fb, n * 8, none⟩)), (2, .pointer (some ⟨fb, n * 8, none⟩))] := by unfold HasL; rw [hF, hA]; kernel_rfl
  have HF := Lib.hid hF; clear hF; have HA := Lib.hid hA; clear hA
  refine ⟨?_, ?_⟩
  · intro V hV
    repeat clear ‹∀ (a : Act) (w : World), Code.wp Tryz.prog _ _ a w → _›
    have gff := gd_ff
    have gtt := gd_tt
    have hi0 := HI.out
    have he0 := HE.out
    exact
    ResL.cons (OpRes.val (by have a0 := hL.at 0 rfl; go_simp)) (
    ResL.cons (OpRes.val (by have a3 := hL.at 1 rfl; go_simp)) (
    ResL.cons (OpRes.val (by have a4 := hL.at 2 rfl; have kk := get_b hV HC.out; go_simp)) (
    ResL.cons (OpRes.val (by have a0 := hL.at 0 rfl; go_simp)) (
    ResL.cons (OpRes.val (by have a6 := hL.at 4 rfl; go_simp)) (
    ResL.cons (OpRes.val (by have a7 := hL.at 5 rfl; have kk := get_b hV HC.out; go_simp)) (
    ResL.cons (OpRes.val (by have a8 := hL.at 6 rfl; go_simp)) (
    ResL.cons (OpRes.val (by have a9 := hL.at 7 rfl; go_simp)) (
    ResL.cons (OpRes.val (by have a5 := hL.at 3 rfl; have a10 := hL.at 8 rfl; go_simp)) (
    ResL.cons (OpRes.val (by have a11 := hL.at 9 rfl; go_simp)) (
    ResL.nil))))))))))
  intro V hV
  clear hL
  obtain ⟨gg, hFF⟩ : ∃ gg : Nat → Value, FF = putL [(3, gg 3), (4, gg 4), (5, gg 5), (6, gg 6), (7, gg 7), (8, gg 8), (9, gg 9), (10, gg 10), (11, gg 11), (2, .pointer (some ⟨fb, n * 8, none⟩))] AA := ⟨fun k => FF.tmps.getD k undef, by rw [HF.out, HA.out]; kernel_rfl⟩
  clear HF
  rw [HA.out] at hFF; clear HA
  simp only [putL, Act.put, List.setIfInBounds_toArray, List.set_cons_zero, List.set_cons_succ] at hFF
  subst hFF
  refine wpList_nil ?_
  have HV := Lib.hid hV; clear hV
  go_wp2_with fail
  go_ret
  exact ⟨rfl, HV.out⟩

theorem ownM {w w' : World} {base e size n : Nat} {v : Value} {xs : List Value} (h : w.ownsRow base e size v n xs) (hb : Below w.heap.size w w') : w'.ownsRow base e size v n xs := own_keep h fun b e => hb.block b (h.lt b e).2
theorem own_formM {w : World} {base e size n : Nat} {v : Value} {xs : List Value} (h : w.ownsRow base e size v n xs) : ∃ A c, v = .slice A n c := by
  rcases h.2 with ⟨rfl, rfl⟩ | ⟨g, cap, cur, rfl, _⟩
  · exact ⟨_, _, rfl⟩
  · exact ⟨_, _, rfl⟩
theorem RunR.runs {w : World} {ρ : Nat → Option Role} {G : RG} {s : MS} (h : RunR w ρ G s) : Runs w ρ G.r G.n0 G.gp s := ⟨G, rfl, rfl, rfl, h⟩
theorem cell_heap {w w' : World} (h : w'.heap = w.heap) (a : Addr) : w'.cell? a = w.cell? a := by simp [World.cell?, h]
theorem info119 : (Tryz.prog.info? 119).map (fun i => (i.zero, i.size, i.bytes)) = some (some (.agg #[.string ⟨#[]⟩, .int .i64 0, .int .i64 0, .slice none 0 0, .int .i64 0, .int .i64 0, .slice none 0 0, .int .i64 0]), 8, 104) := by kernel_rfl
set_option maxRecDepth 100000 in
set_option maxHeartbeats 8000000 in
theorem push_raw (r n0 m cap : Nat) (A : Option Addr) (cs : Array Value) (xs : List Value) (nm : ByteArray) (pa va ff ii into : Int) (cv vs : Value) (w : World) (own : w.ownsRow n0 119 8 (.slice A m cap) m xs) (hb : Blk w r 113 cs) (h5 : cs[5]? = some (.slice A m cap)) (hA : ∀ k, (Value.slice A m cap).ownBlock = some k → k ≠ r) (hm : m ≤ 1000000) (hn0 : n0 ≤ w.heap.size) (hcv : cv.oneCell' = true) (hvs : vs.oneCell' = true) :
    Calls Tryz.prog 122 #[.pointer (some ⟨r, 5, none⟩), .agg #[.string nm, .int .i64 pa, .int .i64 va, cv, .int .i64 ff, .int .i64 ii, vs, .int .i64 into]] w fun e w' => e = .returned (.tuple #[]) ∧ ∃ W1 g cap1 w1, Below w.heap.size w W1 ∧ W1.grownBy w1 (Value.slice A m cap).ownBlock ∧ w1.ownsRow n0 119 8 (.slice (some ⟨g, 0, none⟩) (m + 1) cap1) (m + 1) (xs ++ [.string nm, .int .i64 pa, .int .i64 va, cv, .int .i64 ff, .int .i64 ii, vs, .int .i64 into]) ∧ ((Value.slice A m cap).ownBlock = some g ∨ g = W1.heap.size) ∧ w' = w1.setCell ⟨r, 5, none⟩ (.slice (some ⟨g, 0, none⟩) (m + 1) cap1) := by
  have hb0 : Below w.heap.size w (w.alloc (.cells #[.string nm, .int .i64 pa, .int .i64 va, cv, .int .i64 ff, .int .i64 ii, vs, .int .i64 into] 119)) := (Below.refl _ _).alloc (Nat.le_refl _) _
  have HBX := Lib.hid (Blk.new w 119 #[.string nm, .int .i64 pa, .int .i64 va, cv, .int .i64 ff, .int .i64 ii, vs, .int .i64 into])
  have HBR := Lib.hid (hb.below hb0)
  have HC := Lib.hid (((hb.below hb0).cell 5).trans h5)
  have HB0 := Lib.hid hb0; have HOWN := Lib.hid own; have HA := Lib.hid hA; have HM := Lib.hid hm; have HN0 := Lib.hid hn0; have HB := Lib.hid hb; have HCV := Lib.hid hcv; have HVS := Lib.hid hvs
  clear hb0 own hb h5 hA hm hn0 hcv hvs
  have hrw : r < w.heap.size := HB.out.lt
  go_enter Tryz.func122, Tryz.ntmps122
  go_upto_region 1 with fail
  obtain ⟨W0, hW0⟩ : ∃ W0, W0 = w.alloc (.cells #[.string nm, .int .i64 pa, .int .i64 va, cv, .int .i64 ff, .int .i64 ii, vs, .int .i64 into] 119) := ⟨_, rfl⟩
  rw [← hW0] at HBX HBR HC HB0 ⊢
  have HW0 := Lib.hid hW0
  clear hW0
  have HSS : Hid ((W0.cell? ⟨r, 5, none⟩ = some (.slice A m cap) ∧ (∀ i u, #[.string nm, .int .i64 pa, .int .i64 va, cv, .int .i64 ff, .int .i64 ii, vs, .int .i64 into][i]? = some u → W0.cell? ⟨w.heap.size, i, none⟩ = some u))) := Lib.hid ⟨HC.out, fun i u hu => (HBX.out.cell i).trans hu⟩
  refine wp_region_float [some (none, .pointer (some ⟨r, 5, none⟩)), some (none, .pointer (some ⟨r, 5, none⟩)), some (none, .pointer (some ⟨r, 5, none⟩)), some (none, .slice A m cap), some (none, .agg #[.string nm, .int .i64 pa, .int .i64 va, cv, .int .i64 ff, .int .i64 ii, vs, .int .i64 into]), none, none, none, none] (fun W => W.cell? ⟨r, 5, none⟩ = some (.slice A m cap) ∧ (∀ i u, #[.string nm, .int .i64 pa, .int .i64 va, cv, .int .i64 ff, .int .i64 ii, vs, .int .i64 into][i]? = some u → W.cell? ⟨w.heap.size, i, none⟩ = some u)) 4 mixedT (fun _ a a2 _ hd h => by cases a; cases a2; cases hd; exact h) (by kernel_rfl) (fun Wd hh _ => ⟨(cell_heap hh _).trans HSS.out.1, fun i u hu => (cell_heap hh _).trans (HSS.out.2 i u hu)⟩) ?_
  intro FF AA Wd hA hF hWh hWd
  have hL : HasL FF [(0, .pointer (some ⟨r, 5, none⟩)), (3, .pointer (some ⟨w.heap.size, 0, none⟩)), (4, .pointer (some ⟨r, 5, none⟩)), (5, .pointer (some ⟨r, 5, none⟩)), (6, .pointer (some ⟨r, 5, none⟩)), (7, .slice A m cap), (8, .agg #[.string nm, .int .i64 pa, .int .i64 va, cv, .int .i64 ff, .int .i64 ii, vs, .int .i64 into])] := by unfold HasL; rw [hF, hA]; kernel_rfl
  have HF := Lib.hid hF; clear hF; have HA := Lib.hid hA; clear hA
  refine ⟨?_, ?_⟩
  · intro V hV
    obtain ⟨hc5, hbx⟩ := hV
    repeat clear ‹∀ (a : Act) (w : World), Code.wp Tryz.prog _ _ a w → _›
    have gff := gd_ff
    have gtt := gd_tt
    exact
    ResF.cons (FlRes.val (by have a0 := hL.at 0 rfl; go_simp)) (
    ResF.cons (FlRes.val (by have a0 := hL.at 0 rfl; go_simp)) (
    ResF.cons (FlRes.val (by have a5 := hL.at 3 rfl; go_simp)) (
    ResF.cons (FlRes.val (by have a6 := hL.at 4 rfl; have kk := hc5; go_simp)) (
    ResF.cons (FlRes.val (by have a3 := hL.at 1 rfl; have k0 := hbx 0 _ rfl; have k1 := hbx 1 _ rfl; have k2 := hbx 2 _ rfl; have k3 := hbx 3 _ rfl; have k4 := hbx 4 _ rfl; have k5 := hbx 5 _ rfl; have k6 := hbx 6 _ rfl; have k7 := hbx 7 _ rfl; go_simp)) (
    ResF.pass (
    ResF.pass (
    ResF.pass (
    ResF.pass (
    ResF.nil)))))))))
  clear hL
  obtain ⟨gf, hFF⟩ : ∃ gf : Nat → Value, FF = putL [(4, .pointer (some ⟨r, 5, none⟩)), (5, gf 5), (6, gf 6), (7, .slice A m cap), (8, .agg #[.string nm, .int .i64 pa, .int .i64 va, cv, .int .i64 ff, .int .i64 ii, vs, .int .i64 into])] AA := ⟨fun k => FF.tmps.getD k undef, by rw [HF.out, HA.out]; kernel_rfl⟩
  clear HF
  rw [HA.out] at hFF; clear HA
  simp only [putL, Act.put, List.setIfInBounds_toArray, List.set_cons_zero, List.set_cons_succ] at hFF
  subst hFF
  refine wpAnyS_one 5 rfl (by kernel_rfl) (fun KK hK => ?_)
  go_simp
  have hWd1 := hWd.alloc hWd.size (.cells #[.string nm, .int .i64 pa, .int .i64 va, cv, .int .i64 ff, .int .i64 ii, vs, .int .i64 into] 119)
  have hSa : ((Wd.alloc (.cells #[.string nm, .int .i64 pa, .int .i64 va, cv, .int .i64 ff, .int .i64 ii, vs, .int .i64 into] 119)).cell? ⟨r, 5, none⟩ = some (.slice A m cap) ∧ (∀ i u, #[.string nm, .int .i64 pa, .int .i64 va, cv, .int .i64 ff, .int .i64 ii, vs, .int .i64 into][i]? = some u → (Wd.alloc (.cells #[.string nm, .int .i64 pa, .int .i64 va, cv, .int .i64 ff, .int .i64 ii, vs, .int .i64 into] 119)).cell? ⟨w.heap.size, i, none⟩ = some u)) := ⟨(World.cell?_alloc_lt _ _ _ (by rw [hWh]; exact cell_lt' HSS.out.1)).trans ((cell_heap hWh _).trans HSS.out.1), fun i u hu => (World.cell?_alloc_lt _ _ _ (by rw [hWh]; exact cell_lt' (HSS.out.2 i u hu))).trans ((cell_heap hWh _).trans (HSS.out.2 i u hu))⟩
  refine hK.out _ _ (Or.inl hSa) ?_
  clear hK
  have hbn := Blk.new Wd 119 #[.string nm, .int .i64 pa, .int .i64 va, cv, .int .i64 ff, .int .i64 ii, vs, .int .i64 into]
  rw [hWh] at hbn
  obtain ⟨W1, hW1⟩ : ∃ W1, W1 = Wd.alloc (.cells #[.string nm, .int .i64 pa, .int .i64 va, cv, .int .i64 ff, .int .i64 ii, vs, .int .i64 into] 119) := ⟨_, rfl⟩
  rw [← hW1] at hSa hbn hWd1 ⊢
  have hz1 : W1.heap.size = W0.heap.size + 1 := by rw [hW1, World.size_alloc, hWh]
  have hBW1 := below_next HB0.out hWd1
  have HO1 := Lib.hid (ownM HOWN.out hBW1)
  obtain ⟨bx, hbx⟩ : ∃ b, b = W0.heap.size := ⟨_, rfl⟩
  rw [← hbx] at hbn ⊢
  have HSA := Lib.hid hSa; have HBN := Lib.hid hbn; have HW1 := Lib.hid hBW1; have HZ1 := Lib.hid hz1
  have HBR1 := Lib.hid (HB.out.below hBW1)
  clear hWd hWh hW1 hWd1 hSa hbn hBW1 hz1 hbx
  obtain ⟨i0, hi0, hz0, hz1, hz2⟩ := info_parts info119
  refine wpAnyS_one 6 rfl (by kernel_rfl) (fun KK hK => ?_)
  refine step_append_lies _ rfl _ _ 111 rfl n0 119 i0 (.agg #[.string ⟨#[]⟩, .int .i64 0, .int .i64 0, .slice none 0 0, .int .i64 0, .int .i64 0, .slice none 0 0, .int .i64 0]) 8 104 Tryz.underlying111 hi0 hz0 hz1 hz2 rfl (by decide) _ _ _ rfl HO1.out ⟨bx, 0, none⟩ 1 1 [.string nm, .int .i64 pa, .int .i64 va, cv, .int .i64 ff, .int .i64 ii, vs, .int .i64 into] rfl rfl (World.news_of_block (cs := #[.string nm, .int .i64 pa, .int .i64 va, cv, .int .i64 ff, .int .i64 ii, vs, .int .i64 into]) (t := 119) (fr := (0, 0)) HBN.out) (fun u hu => ?_) (by decide) (by have := HM.out; unfold maxLen; omega) (by have := HM.out; omega) (Nat.le_trans HN0.out HW1.out.size) _ rfl ?_
  · simp only [List.mem_cons, List.not_mem_nil, or_false] at hu
    rcases hu with rfl | rfl | rfl | rfl | rfl | rfl | rfl | rfl
    · rfl
    · rfl
    · rfl
    · exact HCV.out
    · rfl
    · rfl
    · exact HVS.out
    · rfl
  intro g cap1 w1 hown hgrow hat hlt
  have hrne : some r ≠ (Value.slice A m cap).ownBlock := fun e => HA.out r e.symm rfl
  have hbne : some w.heap.size ≠ (Value.slice A m cap).ownBlock := fun e => by have := (HOWN.out.lt _ e.symm).2; omega
  have hS1 : (w1.cell? ⟨r, 5, none⟩ = some (.slice A m cap) ∧ (∀ i u, #[.string nm, .int .i64 pa, .int .i64 va, cv, .int .i64 ff, .int .i64 ii, vs, .int .i64 into][i]? = some u → w1.cell? ⟨w.heap.size, i, none⟩ = some u)) := ⟨hgrow.cell HSA.out.1 hrne, fun i u hu => hgrow.cell (HSA.out.2 i u hu) hbne⟩
  have hbr : Blk w1 r 113 cs := (hgrow.block r HBR1.out.lt hrne).trans HBR1.out
  have HOWN1 := Lib.hid hown; have HGROW := Lib.hid hgrow; have HAT := Lib.hid hat; have HS1 := Lib.hid hS1; have HBR2 := Lib.hid hbr
  clear hown hgrow hat hlt hrne hbne hS1 hbr
  refine hK.out _ _ (Or.inl HS1.out) ?_
  clear hK
  refine wpAnyS_one 7 rfl (by kernel_rfl) (fun KK hK => ?_)
  go_simp
  refine hK.out _ _ (Or.inl HS1.out) ?_
  clear hK
  refine wpAnyS_one 8 rfl (by kernel_rfl) (fun KK hK => ?_)
  have k5 := HS1.out.1
  have f5 := HBR2.out.free 5
  have l5 := HBR2.out.lt
  go_simp
  refine hK.out _ _ (Or.inr (by kernel_rfl)) ?_
  clear hK
  refine wpAnyS_end (by kernel_rfl) ?_
  go_end0
  exact ⟨rfl, W1, g, cap1, w1, HW1.out, HGROW.out, HOWN1.out, HAT.out, rfl⟩

theorem info52 : (Tryz.prog.info? 52).map (fun i => (i.zero, i.size, i.bytes)) = some (some (.agg #[.int .u8 0, .int .i64 0]), 2, 16) := by kernel_rfl
set_option maxRecDepth 100000 in
set_option maxHeartbeats 8000000 in
theorem see_any {w : World} {ρ : Nat → Option Role} {G : RG} {s : MS} (h : RunR w ρ G s) (k : Nat) (n : Int) (hl : s.evs.length ≤ 1000000) :
    Calls Tryz.prog 124 #[.pointer (some ⟨G.r, 0, none⟩), .int .u8 k, .int .i64 n] w fun e w' => e = .returned (.tuple #[]) ∧ ∃ ρ', Runs w' ρ' G.r G.n0 G.gp (s.see k n) ∧ Kp ρ ρ' w w' := by
  obtain ⟨A, c, hv⟩ := own_formM h.erow
  have hb0 : Below w.heap.size w (w.alloc (.cells #[.int .u8 k, .int .i64 n] 52)) := (Below.refl _ _).alloc (Nat.le_refl _) _
  have H0 := Lib.hid (h.below hb0)
  have c6 : w.cell? ⟨G.r, 6, none⟩ = some (.slice A s.evs.length c) := (h.run.cell 6).trans (by simp [RG.cells, hv])
  have lr := h.run.lt
  have HO := Lib.hid (H0.out.erow)
  rw [hv] at HO
  have H := Lib.hid h; have HV := Lib.hid hv; have HL := Lib.hid hl; have HB0 := Lib.hid hb0
  clear h hv hl hb0
  have hl := HL.out
  obtain ⟨i0, hi0, hz0, hz1, hz2⟩ := info_parts info52
  go_enter Tryz.func124, Tryz.ntmps124
  go_wp2_with (at_builtin; refine wpList_append_lies _ rfl _ _ 46 rfl G.n0 52 i0 (.agg #[.int .u8 0, .int .i64 0]) 2 16 Tryz.underlying46 hi0 hz0 hz1 hz2 rfl (by decide) _ _ _ rfl HO.out ⟨w.heap.size, 0, none⟩ 1 1 [.int .u8 k, .int .i64 n] rfl rfl (World.news_of_block (cs := #[.int .u8 k, .int .i64 n]) (t := 52) (fr := (0, 0)) (heap_alloc_new w _)) (by simp [Value.oneCell']) (by decide) (by unfold maxLen; omega) (by omega) (Nat.le_trans H.out.n0 HB0.out.size) _ rfl ?_)
  intro g cap w1 hown hgrow hat hlt
  have hgr : w.alloc (.cells #[.int .u8 k, .int .i64 n] 52) |>.grownBy w1 G.evv.ownBlock := by rw [HV.out]; exact hgrow
  have hat' : G.evv.ownBlock = some g ∨ g = (w.alloc (.cells #[.int .u8 k, .int .i64 n] 52)).heap.size := by rw [HV.out]; exact hat.imp id (fun e => e.trans (by simp))
  have R1 := Lib.hid (H0.out.evApp (k, n) hown hgr hat')
  have hbr : Blk w1 G.r 113 (G.cells s) := (hgr.block G.r H0.out.run.lt (fun c => by have := H.out.erowr G.r c.symm; rw [H.out.runr] at this; cases this)).trans H0.out.run
  have k6 := hbr.cell 6; have f6 := hbr.free 6; have l6 := hbr.lt
  have hce : (G.cells s)[6]? = some G.evv := rfl
  rw [hce, HV.out] at k6
  have KP := Lib.hid ((Kp.of_below HB0.out).trans (kp_grown H0.out hgr .erow H0.out.erowr hat' 6 (.slice (some ⟨g, 0, none⟩) (s.evs.length + 1) cap)))
  clear hown hgrow hat hlt hgr hat' hbr hce c6
  go_upto_region 1 with fail
  clear k6 f6 l6
  obtain ⟨W2, hW2⟩ : ∃ W2, W2 = w1.setCell ⟨G.r, 6, none⟩ (.slice (some ⟨g, 0, none⟩) (s.evs.length + 1) cap) := ⟨_, rfl⟩
  rw [← hW2] at R1 KP ⊢
  clear hW2
  obtain ⟨b, hb⟩ : ∃ b, b = s.ended := ⟨_, rfl⟩
  have k7 : W2.cell? ⟨G.r, 7, none⟩ = some (.bool b) := (R1.out.run.cell 7).trans (by simp [RG.cells, hb])
  have f7 : W2.frozen? ⟨G.r, 7, none⟩ = false := R1.out.run.free 7
  have l7 : G.r < W2.heap.size := R1.out.run.lt
  have HBB := Lib.hid hb
  clear hb
  obtain ⟨b3, hb3⟩ : ∃ b3 : Bool, b3 = (k == 3) := ⟨_, rfl⟩
  obtain ⟨b4, hb4⟩ : ∃ b3 : Bool, b3 = (k == 4) := ⟨_, rfl⟩
  have q3 : ((k : Int) == 3) = b3 := by rw [hb3]; cases hk : (k == 3) <;> simp at hk ⊢ <;> omega
  have q4 : ((k : Int) == 4) = b4 := by rw [hb4]; cases hk : (k == 4) <;> simp at hk ⊢ <;> omega
  have FIN : Hid (∀ x, x = (b || (b3 || b4)) → Runs (W2.setCell ⟨G.r, 7, none⟩ (.bool x)) (roleSet ρ g .erow) G.r G.n0 G.gp (s.see k n) ∧ Kp ρ (roleSet ρ g .erow) w (W2.setCell ⟨G.r, 7, none⟩ (.bool x))) := Lib.hid (fun x hx => by
    rw [HBB.out, hb3, hb4] at hx
    subst hx
    exact ⟨(R1.out.setEnded _).runs, KP.out.trans (Kp.set R1.out.runr _)⟩)
  clear hb3 hb4
  have q3' : ((k : Int) = 3) = (b3 = true) := by rw [← q3]; simp
  have q4' : ((k : Int) = 4) = (b4 = true) := by rw [← q4]; simp
  cases b <;> cases b3 <;> cases b4
  all_goals (go_wp2_with fail; go_end0; exact ⟨rfl, _, FIN.out _ (by rfl)⟩)
end Go.Proofs.YtgdibfnpkcdiiaaGreatDoor

/- What an operation makes of two numbers, here and in the document: the same. By an AI agent. -/
namespace Go.Proofs.YtgdibfnpkcdiiaaGreatDoor
open Go.RowKit

theorem ret_int {k : IntKind} {a b : Int} (h : a = b) : Ending.returned (.int k a) = .returned (.int k b) := by rw [h]
theorem bit_any (x : Bool) (w : World) : Calls Tryz.prog 65 #[.bool x] w fun e w' => e = .returned (.int .i64 (if x then 1 else 0)) ∧ w = w' := by
  cases x <;> (go_enter Tryz.func65, Tryz.ntmps65; go_wp2_with fail; go_ret; exact ⟨rfl, rfl⟩)
theorem i64_and63 (n : Int) : bits .and .i64 n 63 = n % 64 := by
  have h63 : (BitVec.ofInt 64 63).toNat = 2 ^ 6 - 1 := by decide
  have key : (BitVec.ofInt 64 n &&& BitVec.ofInt 64 63).toNat = (n % ((2 ^ 64 : Nat) : Int)).toNat % 2 ^ 6 := by
    rw [BitVec.toNat_and, BitVec.toNat_ofInt, h63, Nat.and_two_pow_sub_one_eq_mod]
  show IntKind.i64.wrap ((BitVec.ofInt 64 n &&& BitVec.ofInt 64 63).toNat : Nat) = n % 64
  rw [key, IntKind.wrap_i64]
  omega
theorem u64_mod64 (n : Int) : (IntKind.u64.wrap n).tmod 64 = n % 64 := by
  have h0 := wrap_u64_nonneg n
  rw [Int.tmod_eq_emod_of_nonneg h0]
  simp only [IntKind.wrap, IntKind.bits, IntKind.signed]
  simp
/-- What both make of it. -/
def DoR (op a b : Int) (w : World) : Prop := ∃ d, Calls Tryz.prog 20 #[.int .u8 op, .int .i64 a, .int .i64 b] w (fun e w' => e = .returned (.int .i64 d) ∧ w = w') ∧ Calls Tryz.prog 21 #[.int .u8 op, .int .i64 a, .int .i64 b] w (fun e w' => e = .returned (.int .i64 d) ∧ w = w')

set_option maxHeartbeats 1000000 in
theorem do_1 (a b : Int) (w : World) : DoR 1 a b w := by
  apply Exists.intro
  refine ⟨?_, ?_⟩
  · go_enter Tryz.func20, Tryz.ntmps20
    go_wp2_with fail
    all_goals go_ret
    all_goals exact ⟨rfl, rfl⟩
  · go_enter Tryz.func21, Tryz.ntmps21
    go_wp2_with fail
    all_goals go_ret
    all_goals exact ⟨rfl, rfl⟩

set_option maxHeartbeats 1000000 in
theorem do_2 (a b : Int) (w : World) : DoR 2 a b w := by
  apply Exists.intro
  refine ⟨?_, ?_⟩
  · go_enter Tryz.func20, Tryz.ntmps20
    go_wp2_with fail
    all_goals go_ret
    all_goals exact ⟨rfl, rfl⟩
  · go_enter Tryz.func21, Tryz.ntmps21
    go_wp2_with fail
    all_goals go_ret
    all_goals exact ⟨rfl, rfl⟩

set_option maxHeartbeats 1000000 in
theorem do_3 (a b : Int) (w : World) : DoR 3 a b w := by
  apply Exists.intro
  refine ⟨?_, ?_⟩
  · go_enter Tryz.func20, Tryz.ntmps20
    go_wp2_with fail
    all_goals go_ret
    all_goals exact ⟨rfl, rfl⟩
  · go_enter Tryz.func21, Tryz.ntmps21
    go_wp2_with fail
    all_goals go_ret
    all_goals exact ⟨rfl, rfl⟩

set_option maxHeartbeats 1000000 in
theorem do_8 (a b : Int) (w : World) : DoR 8 a b w := by
  apply Exists.intro
  refine ⟨?_, ?_⟩
  · go_enter Tryz.func20, Tryz.ntmps20
    go_wp2_with fail
    all_goals go_ret
    all_goals exact ⟨rfl, rfl⟩
  · go_enter Tryz.func21, Tryz.ntmps21
    go_wp2_with fail
    all_goals go_ret
    all_goals exact ⟨rfl, rfl⟩

set_option maxHeartbeats 1000000 in
theorem do_9 (a b : Int) (w : World) : DoR 9 a b w := by
  apply Exists.intro
  refine ⟨?_, ?_⟩
  · go_enter Tryz.func20, Tryz.ntmps20
    go_wp2_with fail
    all_goals go_ret
    all_goals exact ⟨rfl, rfl⟩
  · go_enter Tryz.func21, Tryz.ntmps21
    go_wp2_with fail
    all_goals go_ret
    all_goals exact ⟨rfl, rfl⟩

set_option maxHeartbeats 1000000 in
theorem do_10 (a b : Int) (w : World) : DoR 10 a b w := by
  apply Exists.intro
  refine ⟨?_, ?_⟩
  · go_enter Tryz.func20, Tryz.ntmps20
    go_wp2_with fail
    all_goals go_ret
    all_goals exact ⟨rfl, rfl⟩
  · go_enter Tryz.func21, Tryz.ntmps21
    go_wp2_with fail
    all_goals go_ret
    all_goals exact ⟨rfl, rfl⟩

set_option maxHeartbeats 1000000 in
theorem do_11 (a b : Int) (w : World) : DoR 11 a b w := by
  have e1 := i64_and63 b
  have e2 := u64_mod64 b
  have hc : 0 ≤ b % 64 := by omega
  generalize b % 64 = c at e1 e2 hc
  apply Exists.intro
  refine ⟨?_, ?_⟩
  · go_enter Tryz.func20, Tryz.ntmps20
    go_wp2_with fail
    all_goals go_ret
    all_goals exact ⟨rfl, rfl⟩
  · go_enter Tryz.func21, Tryz.ntmps21
    go_wp2_with fail
    all_goals go_ret
    all_goals exact ⟨rfl, rfl⟩

set_option maxHeartbeats 1000000 in
theorem do_13 (a b : Int) (w : World) : DoR 13 a b w := by
  have e1 := i64_and63 b
  have e2 := u64_mod64 b
  have hc : 0 ≤ b % 64 := by omega
  generalize b % 64 = c at e1 e2 hc
  apply Exists.intro
  refine ⟨?_, ?_⟩
  · go_enter Tryz.func20, Tryz.ntmps20
    go_wp2_with fail
    all_goals go_ret
    all_goals exact ⟨rfl, rfl⟩
  · go_enter Tryz.func21, Tryz.ntmps21
    go_wp2_with fail
    all_goals go_ret
    all_goals exact ⟨rfl, rfl⟩

set_option maxHeartbeats 1000000 in
theorem do_14 (a b : Int) (w : World) : DoR 14 a b w := by
  cases hx : decide (a < b) with
  | true =>
    refine ⟨1, ?_, ?_⟩
    · go_enter Tryz.func20, Tryz.ntmps20
      go_wp2_with fail
      refine (bit_any _ _).mono ?_; rintro e w' ⟨rfl, rfl⟩
      go_wp2_with fail
      all_goals go_ret
      all_goals exact ⟨rfl, rfl⟩
    · go_enter Tryz.func21, Tryz.ntmps21
      go_wp2_with fail
      all_goals go_ret
      all_goals exact ⟨rfl, rfl⟩
  | false =>
    refine ⟨0, ?_, ?_⟩
    · go_enter Tryz.func20, Tryz.ntmps20
      go_wp2_with fail
      refine (bit_any _ _).mono ?_; rintro e w' ⟨rfl, rfl⟩
      go_wp2_with fail
      all_goals go_ret
      all_goals exact ⟨rfl, rfl⟩
    · go_enter Tryz.func21, Tryz.ntmps21
      go_wp2_with fail
      all_goals go_ret
      all_goals exact ⟨rfl, rfl⟩

set_option maxHeartbeats 1000000 in
theorem do_16 (a b : Int) (w : World) : DoR 16 a b w := by
  cases hx : (a == b) with
  | true =>
    refine ⟨1, ?_, ?_⟩
    · go_enter Tryz.func20, Tryz.ntmps20
      go_wp2_with fail
      refine (bit_any _ _).mono ?_; rintro e w' ⟨rfl, rfl⟩
      go_wp2_with fail
      all_goals go_ret
      all_goals exact ⟨rfl, rfl⟩
    · go_enter Tryz.func21, Tryz.ntmps21
      go_wp2_with fail
      all_goals go_ret
      all_goals exact ⟨rfl, rfl⟩
  | false =>
    refine ⟨0, ?_, ?_⟩
    · go_enter Tryz.func20, Tryz.ntmps20
      go_wp2_with fail
      refine (bit_any _ _).mono ?_; rintro e w' ⟨rfl, rfl⟩
      go_wp2_with fail
      all_goals go_ret
      all_goals exact ⟨rfl, rfl⟩
    · go_enter Tryz.func21, Tryz.ntmps21
      go_wp2_with fail
      all_goals go_ret
      all_goals exact ⟨rfl, rfl⟩

set_option maxHeartbeats 1000000 in
theorem do_4 (a b : Int) (w : World) : DoR 4 a b w := by
  by_cases h0 : b = 0
  · subst h0
    apply Exists.intro
    refine ⟨?_, ?_⟩
    · go_enter Tryz.func20, Tryz.ntmps20
      go_wp2_with fail
      all_goals go_ret
      all_goals exact ⟨rfl, rfl⟩
    · go_enter Tryz.func21, Tryz.ntmps21
      go_wp2_with fail
      all_goals go_ret
      all_goals exact ⟨rfl, rfl⟩
  · have h0 : (b == 0) = false := by simpa using h0
    by_cases h1 : b = -1
    · subst h1
      apply Exists.intro
      refine ⟨?_, ?_⟩
      · go_enter Tryz.func20, Tryz.ntmps20
        go_wp2_with fail
        all_goals go_ret
        all_goals exact ⟨rfl, rfl⟩
      · go_enter Tryz.func21, Tryz.ntmps21
        go_wp2_with fail
        all_goals go_ret
        all_goals exact ⟨ret_int (by simp), rfl⟩
    · have h1 : (b == -1) = false := by simpa using h1
      have h2 : b ≠ 0 := by simpa using h0
      apply Exists.intro
      refine ⟨?_, ?_⟩
      · go_enter Tryz.func20, Tryz.ntmps20
        go_wp2_with fail
        all_goals go_ret
        all_goals exact ⟨rfl, rfl⟩
      · go_enter Tryz.func21, Tryz.ntmps21
        go_wp2_with fail
        all_goals go_ret
        all_goals exact ⟨rfl, rfl⟩

set_option maxHeartbeats 1000000 in
theorem do_5 (a b : Int) (w : World) : DoR 5 a b w := by
  by_cases h0 : b = 0
  · subst h0
    apply Exists.intro
    refine ⟨?_, ?_⟩
    · go_enter Tryz.func20, Tryz.ntmps20
      go_wp2_with fail
      all_goals go_ret
      all_goals exact ⟨rfl, rfl⟩
    · go_enter Tryz.func21, Tryz.ntmps21
      go_wp2_with fail
      all_goals go_ret
      all_goals exact ⟨rfl, rfl⟩
  · have h0 : (b == 0) = false := by simpa using h0
    by_cases h1 : b = -1
    · subst h1
      apply Exists.intro
      refine ⟨?_, ?_⟩
      · go_enter Tryz.func20, Tryz.ntmps20
        go_wp2_with fail
        all_goals go_ret
        all_goals exact ⟨rfl, rfl⟩
      · go_enter Tryz.func21, Tryz.ntmps21
        go_wp2_with fail
        all_goals go_ret
        all_goals exact ⟨rfl, rfl⟩
    · have h1 : (b == -1) = false := by simpa using h1
      have h2 : b ≠ 0 := by simpa using h0
      apply Exists.intro
      refine ⟨?_, ?_⟩
      · go_enter Tryz.func20, Tryz.ntmps20
        go_wp2_with fail
        all_goals go_ret
        all_goals exact ⟨rfl, rfl⟩
      · go_enter Tryz.func21, Tryz.ntmps21
        go_wp2_with fail
        all_goals go_ret
        all_goals exact ⟨rfl, rfl⟩

set_option maxHeartbeats 2000000 in
theorem do_no (op a b : Int) (w : World) (h1 : (op == 1) = false) (h2 : (op == 2) = false) (h3 : (op == 3) = false) (h8 : (op == 8) = false) (h9 : (op == 9) = false) (h10 : (op == 10) = false) (h11 : (op == 11) = false) (h13 : (op == 13) = false) (h14 : (op == 14) = false) (h16 : (op == 16) = false) (h4 : (op == 4) = false) (h5 : (op == 5) = false) : DoR op a b w := by
  apply Exists.intro
  refine ⟨?_, ?_⟩
  · go_enter Tryz.func20, Tryz.ntmps20
    go_wp2_with fail
    all_goals go_ret
    all_goals exact ⟨rfl, rfl⟩
  · go_enter Tryz.func21, Tryz.ntmps21
    go_wp2_with fail
    all_goals go_ret
    all_goals exact ⟨rfl, rfl⟩

theorem do_any (op a b : Int) (w : World) : DoR op a b w := by
  by_cases h1 : op = 1
  · subst h1; exact do_1 a b w
  by_cases h2 : op = 2
  · subst h2; exact do_2 a b w
  by_cases h3 : op = 3
  · subst h3; exact do_3 a b w
  by_cases h8 : op = 8
  · subst h8; exact do_8 a b w
  by_cases h9 : op = 9
  · subst h9; exact do_9 a b w
  by_cases h10 : op = 10
  · subst h10; exact do_10 a b w
  by_cases h11 : op = 11
  · subst h11; exact do_11 a b w
  by_cases h13 : op = 13
  · subst h13; exact do_13 a b w
  by_cases h14 : op = 14
  · subst h14; exact do_14 a b w
  by_cases h16 : op = 16
  · subst h16; exact do_16 a b w
  by_cases h4 : op = 4
  · subst h4; exact do_4 a b w
  by_cases h5 : op = 5
  · subst h5; exact do_5 a b w
  exact do_no op a b w (by simpa using h1) (by simpa using h2) (by simpa using h3) (by simpa using h8) (by simpa using h9) (by simpa using h10) (by simpa using h11) (by simpa using h13) (by simpa using h14) (by simpa using h16) (by simpa using h4) (by simpa using h5)
end Go.Proofs.YtgdibfnpkcdiiaaGreatDoor

/- What an operation makes of two numbers, as a plain function. By an AI agent. -/
namespace Go.Proofs.YtgdibfnpkcdiiaaGreatDoor
open Go.RowKit

def doW (op : Nat) (a b : Int) : Int :=
  if op = 1 then wrap64 (a + b) else if op = 2 then wrap64 (a - b) else if op = 3 then wrap64 (a * b)
  else if op = 8 then bits .and .i64 a b else if op = 9 then bits .or .i64 a b else if op = 10 then bits .xor .i64 a b
  else if op = 11 then wrap64 (a * 2 ^ (b % 64).toNat) else if op = 13 then wrap64 (a / 2 ^ (b % 64).toNat)
  else if op = 14 then (if a < b then 1 else 0) else if op = 16 then (if a = b then 1 else 0)
  else if op = 4 then (if b = 0 then -1 else if b = -1 then wrap64 (-a) else wrap64 (a.tdiv b))
  else if op = 5 then (if b = 0 then wrap64 a else if b = -1 then 0 else wrap64 (a.tmod b))
  else 0
theorem wrap64_in (n : Int) : I64 (wrap64 n) := by unfold wrap64 I64; omega
theorem wrap64_of {n : Int} (h : I64 n) : wrap64 n = n := by unfold wrap64; unfold I64 at h; omega
theorem bits_i64 (o : BinOp) (a b : Int) : I64 (bits o .i64 a b) := by
  have : ∀ n, I64 (IntKind.i64.wrap n) := fun n => by rw [IntKind.wrap_i64]; unfold I64; omega
  exact this _
theorem doW_i64 (op : Nat) (a b : Int) : I64 (doW op a b) := by
  have i0 : I64 0 := ⟨by omega, by omega⟩
  have i1 : I64 1 := ⟨by omega, by omega⟩
  have i2 : I64 (-1) := ⟨by omega, by omega⟩
  have c : ∀ (p : Prop) [Decidable p] (x y : Int), I64 x → I64 y → I64 (if p then x else y) := fun p _ x y hx hy => by by_cases h : p <;> simp [h, hx, hy]
  unfold doW
  exact c _ _ _ (wrap64_in _) (c _ _ _ (wrap64_in _) (c _ _ _ (wrap64_in _) (c _ _ _ (bits_i64 _ _ _) (c _ _ _ (bits_i64 _ _ _) (c _ _ _ (bits_i64 _ _ _) (c _ _ _ (wrap64_in _) (c _ _ _ (wrap64_in _) (c _ _ _ (c _ _ _ i1 i0) (c _ _ _ (c _ _ _ i1 i0) (c _ _ _ (c _ _ _ i2 (c _ _ _ (wrap64_in _) (wrap64_in _))) (c _ _ _ (c _ _ _ (wrap64_in _) (c _ _ _ i0 (wrap64_in _))) i0)))))))))))
theorem doW_no {op : Nat} (h : op ∉ binsW) (a b : Int) : doW op a b = 0 := by
  simp only [binsW, List.mem_cons, List.not_mem_nil, or_false, not_or] at h
  obtain ⟨h1, h2, h3, h4, h5, h6, h7, h8, h9, h10, h11, h12⟩ := h
  unfold doW
  rw [if_neg h1, if_neg h2, if_neg h3, if_neg h6, if_neg h7, if_neg h8, if_neg h9, if_neg h10, if_neg h11, if_neg h12, if_neg h4, if_neg h5]

set_option maxHeartbeats 1000000 in
theorem dov_1 (a b : Int)  (w : World) : Calls Tryz.prog 20 #[.int .u8 1, .int .i64 a, .int .i64 b] w fun e w' => e = .returned (.int .i64 (doW 1 a b)) ∧ w = w' := by
  obtain ⟨d, hd⟩ : ∃ d, d = doW 1 a b := ⟨_, rfl⟩
  rw [← hd]
  have HD := Lib.hid hd; clear hd
  go_enter Tryz.func20, Tryz.ntmps20
  go_wp2_with fail
  all_goals go_ret
  all_goals exact ⟨ret_int (by rw [HD.out]; rfl), rfl⟩

set_option maxHeartbeats 1000000 in
theorem dov_2 (a b : Int)  (w : World) : Calls Tryz.prog 20 #[.int .u8 2, .int .i64 a, .int .i64 b] w fun e w' => e = .returned (.int .i64 (doW 2 a b)) ∧ w = w' := by
  obtain ⟨d, hd⟩ : ∃ d, d = doW 2 a b := ⟨_, rfl⟩
  rw [← hd]
  have HD := Lib.hid hd; clear hd
  go_enter Tryz.func20, Tryz.ntmps20
  go_wp2_with fail
  all_goals go_ret
  all_goals exact ⟨ret_int (by rw [HD.out]; rfl), rfl⟩

set_option maxHeartbeats 1000000 in
theorem dov_3 (a b : Int)  (w : World) : Calls Tryz.prog 20 #[.int .u8 3, .int .i64 a, .int .i64 b] w fun e w' => e = .returned (.int .i64 (doW 3 a b)) ∧ w = w' := by
  obtain ⟨d, hd⟩ : ∃ d, d = doW 3 a b := ⟨_, rfl⟩
  rw [← hd]
  have HD := Lib.hid hd; clear hd
  go_enter Tryz.func20, Tryz.ntmps20
  go_wp2_with fail
  all_goals go_ret
  all_goals exact ⟨ret_int (by rw [HD.out]; rfl), rfl⟩

set_option maxHeartbeats 1000000 in
theorem dov_8 (a b : Int)  (w : World) : Calls Tryz.prog 20 #[.int .u8 8, .int .i64 a, .int .i64 b] w fun e w' => e = .returned (.int .i64 (doW 8 a b)) ∧ w = w' := by
  obtain ⟨d, hd⟩ : ∃ d, d = doW 8 a b := ⟨_, rfl⟩
  rw [← hd]
  have HD := Lib.hid hd; clear hd
  go_enter Tryz.func20, Tryz.ntmps20
  go_wp2_with fail
  all_goals go_ret
  all_goals exact ⟨ret_int (by rw [HD.out]; rfl), rfl⟩

set_option maxHeartbeats 1000000 in
theorem dov_9 (a b : Int)  (w : World) : Calls Tryz.prog 20 #[.int .u8 9, .int .i64 a, .int .i64 b] w fun e w' => e = .returned (.int .i64 (doW 9 a b)) ∧ w = w' := by
  obtain ⟨d, hd⟩ : ∃ d, d = doW 9 a b := ⟨_, rfl⟩
  rw [← hd]
  have HD := Lib.hid hd; clear hd
  go_enter Tryz.func20, Tryz.ntmps20
  go_wp2_with fail
  all_goals go_ret
  all_goals exact ⟨ret_int (by rw [HD.out]; rfl), rfl⟩

set_option maxHeartbeats 1000000 in
theorem dov_10 (a b : Int)  (w : World) : Calls Tryz.prog 20 #[.int .u8 10, .int .i64 a, .int .i64 b] w fun e w' => e = .returned (.int .i64 (doW 10 a b)) ∧ w = w' := by
  obtain ⟨d, hd⟩ : ∃ d, d = doW 10 a b := ⟨_, rfl⟩
  rw [← hd]
  have HD := Lib.hid hd; clear hd
  go_enter Tryz.func20, Tryz.ntmps20
  go_wp2_with fail
  all_goals go_ret
  all_goals exact ⟨ret_int (by rw [HD.out]; rfl), rfl⟩

set_option maxHeartbeats 1000000 in
theorem dov_11 (a b : Int)  (w : World) : Calls Tryz.prog 20 #[.int .u8 11, .int .i64 a, .int .i64 b] w fun e w' => e = .returned (.int .i64 (doW 11 a b)) ∧ w = w' := by
  obtain ⟨d, hd⟩ : ∃ d, d = doW 11 a b := ⟨_, rfl⟩
  rw [← hd]
  have HD := Lib.hid hd; clear hd
  have e1 := i64_and63 b
  have e2 := u64_mod64 b
  have hc : 0 ≤ b % 64 := by omega
  have hc2 : b % 64 < 64 := by omega
  obtain ⟨c, hcc⟩ : ∃ c, c = b % 64 := ⟨_, rfl⟩
  have HM := Lib.hid (show min c.toNat 64 = (b % 64).toNat by rw [hcc]; omega)
  rw [← hcc] at e1 e2 hc
  clear hcc hc2
  go_enter Tryz.func20, Tryz.ntmps20
  go_wp2_with fail
  all_goals go_ret
  all_goals exact ⟨ret_int (by rw [HD.out, HM.out]; rfl), rfl⟩

theorem sar_in {a : Int} (h : I64 a) (k : Nat) : I64 (a / 2 ^ k) := by
  obtain ⟨h1, h2⟩ := h
  have hp : (0 : Int) < 2 ^ k := Int.pow_pos (by decide)
  generalize (2 : Int) ^ k = m at hp
  have q1 := Int.mul_ediv_add_emod a m
  have q2 := Int.emod_nonneg a (show m ≠ 0 by omega)
  have q3 := Int.emod_lt_of_pos a hp
  constructor
  · apply Int.le_ediv_of_mul_le hp
    have : -9223372036854775808 * m ≤ -9223372036854775808 * 1 := Int.mul_le_mul_of_nonpos_left (by omega) (by omega)
    omega
  · by_cases h0 : 0 ≤ a
    · exact Int.le_trans (Int.ediv_le_self _ h0) h2
    · have : a / m < 0 := Int.ediv_neg_of_neg_of_pos (by omega) hp
      omega
theorem tmod_in {a b : Int} (h : I64 a) : I64 (a.tmod b) := by
  obtain ⟨h1, h2⟩ := h
  have h3 : (a.tmod b).natAbs = a.natAbs % b.natAbs := Int.natAbs_tmod a b
  have h4 := Nat.mod_le a.natAbs b.natAbs
  rcases Int.le_total 0 a with h | h
  · have := Int.tmod_nonneg b h
    constructor <;> omega
  · have : (a.tmod b) ≤ 0 := by
      have e := Int.tmod_nonneg b (show 0 ≤ -a by omega)
      rw [Int.neg_tmod] at e; omega
    constructor <;> omega

set_option maxHeartbeats 1000000 in
theorem dov_13 (a b : Int) (ha : Hid (I64 a)) (w : World) : Calls Tryz.prog 20 #[.int .u8 13, .int .i64 a, .int .i64 b] w fun e w' => e = .returned (.int .i64 (doW 13 a b)) ∧ w = w' := by
  obtain ⟨d, hd⟩ : ∃ d, d = doW 13 a b := ⟨_, rfl⟩
  rw [← hd]
  have HD := Lib.hid hd; clear hd
  have e1 := i64_and63 b
  have e2 := u64_mod64 b
  have hc : 0 ≤ b % 64 := by omega
  have hc2 : b % 64 < 64 := by omega
  obtain ⟨c, hcc⟩ : ∃ c, c = b % 64 := ⟨_, rfl⟩
  have HM := Lib.hid (show min c.toNat 64 = (b % 64).toNat by rw [hcc]; omega)
  rw [← hcc] at e1 e2 hc
  clear hcc hc2
  go_enter Tryz.func20, Tryz.ntmps20
  go_wp2_with fail
  all_goals go_ret
  all_goals exact ⟨ret_int (by rw [HD.out, HM.out]; exact (wrap64_of (sar_in ha.out _)).symm), rfl⟩

set_option maxHeartbeats 1000000 in
theorem dov_4 (a b : Int) (hb0 : b ≠ 0) (hb1 : b ≠ -1) (w : World) : Calls Tryz.prog 20 #[.int .u8 4, .int .i64 a, .int .i64 b] w fun e w' => e = .returned (.int .i64 (doW 4 a b)) ∧ w = w' := by
  obtain ⟨d, hd⟩ : ∃ d, d = doW 4 a b := ⟨_, rfl⟩
  rw [← hd]
  have HD := Lib.hid hd; clear hd
  have h0 : (b == 0) = false := by simpa using hb0
  have h1 : (b == -1) = false := by simpa using hb1
  have h2 : b ≠ 0 := hb0
  go_enter Tryz.func20, Tryz.ntmps20
  go_wp2_with fail
  all_goals go_ret
  all_goals exact ⟨ret_int (by rw [HD.out]; show _ = (if b = 0 then -1 else if b = -1 then wrap64 (-a) else wrap64 (a.tdiv b)); rw [if_neg hb0, if_neg hb1]), rfl⟩

set_option maxHeartbeats 1000000 in
theorem dov_5 (a b : Int) (ha : Hid (I64 a)) (hb0 : b ≠ 0) (hb1 : b ≠ -1) (w : World) : Calls Tryz.prog 20 #[.int .u8 5, .int .i64 a, .int .i64 b] w fun e w' => e = .returned (.int .i64 (doW 5 a b)) ∧ w = w' := by
  obtain ⟨d, hd⟩ : ∃ d, d = doW 5 a b := ⟨_, rfl⟩
  rw [← hd]
  have HD := Lib.hid hd; clear hd
  have h0 : (b == 0) = false := by simpa using hb0
  have h1 : (b == -1) = false := by simpa using hb1
  have h2 : b ≠ 0 := hb0
  go_enter Tryz.func20, Tryz.ntmps20
  go_wp2_with fail
  all_goals go_ret
  all_goals exact ⟨ret_int (by rw [HD.out]; show _ = (if b = 0 then wrap64 a else if b = -1 then 0 else wrap64 (a.tmod b)); rw [if_neg hb0, if_neg hb1, wrap64_of (tmod_in ha.out)]), rfl⟩

set_option maxHeartbeats 1000000 in
theorem dov_4z (a : Int)  (w : World) : Calls Tryz.prog 20 #[.int .u8 4, .int .i64 a, .int .i64 (0)] w fun e w' => e = .returned (.int .i64 (doW 4 a (0))) ∧ w = w' := by
  obtain ⟨d, hd⟩ : ∃ d, d = doW 4 a (0) := ⟨_, rfl⟩
  rw [← hd]
  have HD := Lib.hid hd; clear hd
  go_enter Tryz.func20, Tryz.ntmps20
  go_wp2_with fail
  all_goals go_ret
  all_goals exact ⟨ret_int (by rw [HD.out]; rfl), rfl⟩

set_option maxHeartbeats 1000000 in
theorem dov_4m (a : Int)  (w : World) : Calls Tryz.prog 20 #[.int .u8 4, .int .i64 a, .int .i64 (-1)] w fun e w' => e = .returned (.int .i64 (doW 4 a (-1))) ∧ w = w' := by
  obtain ⟨d, hd⟩ : ∃ d, d = doW 4 a (-1) := ⟨_, rfl⟩
  rw [← hd]
  have HD := Lib.hid hd; clear hd
  go_enter Tryz.func20, Tryz.ntmps20
  go_wp2_with fail
  all_goals go_ret
  all_goals exact ⟨ret_int (by rw [HD.out]; rfl), rfl⟩

set_option maxHeartbeats 1000000 in
theorem dov_5z (a : Int) (ha : Hid (I64 a)) (w : World) : Calls Tryz.prog 20 #[.int .u8 5, .int .i64 a, .int .i64 (0)] w fun e w' => e = .returned (.int .i64 (doW 5 a (0))) ∧ w = w' := by
  obtain ⟨d, hd⟩ : ∃ d, d = doW 5 a (0) := ⟨_, rfl⟩
  rw [← hd]
  have HD := Lib.hid hd; clear hd
  go_enter Tryz.func20, Tryz.ntmps20
  go_wp2_with fail
  all_goals go_ret
  all_goals exact ⟨ret_int (by rw [HD.out]; exact (wrap64_of ha.out).symm), rfl⟩

set_option maxHeartbeats 1000000 in
theorem dov_5m (a : Int)  (w : World) : Calls Tryz.prog 20 #[.int .u8 5, .int .i64 a, .int .i64 (-1)] w fun e w' => e = .returned (.int .i64 (doW 5 a (-1))) ∧ w = w' := by
  obtain ⟨d, hd⟩ : ∃ d, d = doW 5 a (-1) := ⟨_, rfl⟩
  rw [← hd]
  have HD := Lib.hid hd; clear hd
  go_enter Tryz.func20, Tryz.ntmps20
  go_wp2_with fail
  all_goals go_ret
  all_goals exact ⟨ret_int (by rw [HD.out]; rfl), rfl⟩

set_option maxHeartbeats 1000000 in
theorem dov_14t (a b : Int) (hl : a < b) (w : World) : Calls Tryz.prog 20 #[.int .u8 14, .int .i64 a, .int .i64 b] w fun e w' => e = .returned (.int .i64 (doW 14 a b)) ∧ w = w' := by
  obtain ⟨d, hd⟩ : ∃ d, d = doW 14 a b := ⟨_, rfl⟩
  rw [← hd]
  have HD := Lib.hid hd; clear hd
  have hx : decide (a < b) = true := decide_eq_true hl
  go_enter Tryz.func20, Tryz.ntmps20
  go_wp2_with fail
  refine (bit_any _ _).mono ?_; rintro e w1 ⟨rfl, rfl⟩
  go_wp2_with fail
  all_goals go_ret
  all_goals exact ⟨ret_int (by rw [HD.out]; show _ = (if a < b then (1 : Int) else 0); rw [if_pos hl]), rfl⟩

set_option maxHeartbeats 1000000 in
theorem dov_14f (a b : Int) (hl : ¬ a < b) (w : World) : Calls Tryz.prog 20 #[.int .u8 14, .int .i64 a, .int .i64 b] w fun e w' => e = .returned (.int .i64 (doW 14 a b)) ∧ w = w' := by
  obtain ⟨d, hd⟩ : ∃ d, d = doW 14 a b := ⟨_, rfl⟩
  rw [← hd]
  have HD := Lib.hid hd; clear hd
  have hx : decide (a < b) = false := decide_eq_false hl
  go_enter Tryz.func20, Tryz.ntmps20
  go_wp2_with fail
  refine (bit_any _ _).mono ?_; rintro e w1 ⟨rfl, rfl⟩
  go_wp2_with fail
  all_goals go_ret
  all_goals exact ⟨ret_int (by rw [HD.out]; show _ = (if a < b then (1 : Int) else 0); rw [if_neg (by omega)]), rfl⟩

set_option maxHeartbeats 1000000 in
theorem dov_16t (a b : Int) (hl : a = b) (w : World) : Calls Tryz.prog 20 #[.int .u8 16, .int .i64 a, .int .i64 b] w fun e w' => e = .returned (.int .i64 (doW 16 a b)) ∧ w = w' := by
  obtain ⟨d, hd⟩ : ∃ d, d = doW 16 a b := ⟨_, rfl⟩
  rw [← hd]
  have HD := Lib.hid hd; clear hd
  have hx : (a == b) = true := by simpa using hl
  go_enter Tryz.func20, Tryz.ntmps20
  go_wp2_with fail
  refine (bit_any _ _).mono ?_; rintro e w1 ⟨rfl, rfl⟩
  go_wp2_with fail
  all_goals go_ret
  all_goals exact ⟨ret_int (by rw [HD.out]; show _ = (if a = b then (1 : Int) else 0); rw [if_pos hl]), rfl⟩

set_option maxHeartbeats 1000000 in
theorem dov_16f (a b : Int) (hl : ¬ a = b) (w : World) : Calls Tryz.prog 20 #[.int .u8 16, .int .i64 a, .int .i64 b] w fun e w' => e = .returned (.int .i64 (doW 16 a b)) ∧ w = w' := by
  obtain ⟨d, hd⟩ : ∃ d, d = doW 16 a b := ⟨_, rfl⟩
  rw [← hd]
  have HD := Lib.hid hd; clear hd
  have hx : (a == b) = false := by simpa using hl
  go_enter Tryz.func20, Tryz.ntmps20
  go_wp2_with fail
  refine (bit_any _ _).mono ?_; rintro e w1 ⟨rfl, rfl⟩
  go_wp2_with fail
  all_goals go_ret
  all_goals exact ⟨ret_int (by rw [HD.out]; show _ = (if a = b then (1 : Int) else 0); rw [if_neg (by omega)]), rfl⟩

theorem do_val (op : Nat) (hop : op ∈ binsW) (a b : Int) (ha : I64 a) (w : World) : Calls Tryz.prog 20 #[.int .u8 op, .int .i64 a, .int .i64 b] w fun e w' => e = .returned (.int .i64 (doW op a b)) ∧ w = w' := by
  simp only [binsW, List.mem_cons, List.not_mem_nil, or_false] at hop
  rcases hop with rfl | rfl | rfl | rfl | rfl | rfl | rfl | rfl | rfl | rfl | rfl | rfl
  · exact dov_1 a b w
  · exact dov_2 a b w
  · exact dov_3 a b w
  · by_cases h0 : b = 0
    · subst h0; exact dov_4z a w
    · by_cases h1 : b = -1
      · subst h1; exact dov_4m a w
      · exact dov_4 a b h0 h1 w
  · by_cases h0 : b = 0
    · subst h0; exact dov_5z a (Lib.hid ha) w
    · by_cases h1 : b = -1
      · subst h1; exact dov_5m a w
      · exact dov_5 a b (Lib.hid ha) h0 h1 w
  · exact dov_8 a b w
  · exact dov_9 a b w
  · exact dov_10 a b w
  · exact dov_11 a b w
  · exact dov_13 a b (Lib.hid ha) w
  · by_cases h : a < b
    · exact dov_14t a b h w
    · exact dov_14f a b h w
  · by_cases h : a = b
    · exact dov_16t a b h w
    · exact dov_16f a b h w
end Go.Proofs.YtgdibfnpkcdiiaaGreatDoor

/- What each instruction does, in memory. By an AI agent. -/
namespace Go.Proofs.YtgdibfnpkcdiiaaGreatDoor
open Go.RowKit

structure Pre (w W0 : World) (ρ : Nat → Option Role) (G : RG) (s : MS) (bx : Nat) (cs : Array Value) : Prop where
  r : RunR W0 ρ G s
  box : Blk W0 bx 71 cs
  kp : Kp ρ ρ w W0
  no : ρ bx = none
theorem pre_ins {w : World} {ρ : Nat → Option Role} {G : RG} {s : MS} (h : RunR w ρ G s) (cs : Array Value) : Pre w (w.alloc (.cells cs 71)) ρ G s w.heap.size cs :=
  ⟨h.below ((Below.refl _ _).alloc (Nat.le_refl _) _), Blk.new w 71 cs, Kp.alloc _, h.free (Nat.le_refl _)⟩
section
variable {w w' : World} {ρ : Nat → Option Role} {G : RG} {s : MS}
theorem RunR.vblk (h : RunR w ρ G s) : Blk w G.t.b 2 (intsC s.top.vars) := by have := (h.fr _ _ G.fs_at).2.1; rw [h.ft] at this; exact this
theorem RunR.vcell (h : RunR w ρ G s) {a : Nat} (ha : a < s.top.vars.length) : w.cell? ⟨G.t.b, a, none⟩ = some (.int .i64 (s.v a)) := by
  rw [h.vblk.cell]
  unfold intsC MS.v
  rw [Int.toNat_natCast, List.getElem?_toArray, List.getElem?_map, List.getD_eq_getElem?_getD, List.getElem?_eq_getElem ha]
  rfl
theorem Runs.below {r n0 : Nat} {gp : PrG} (h : Runs w ρ r n0 gp s) (hb : Below w.heap.size w w') : Runs w' ρ r n0 gp s := by
  obtain ⟨G, rfl, rfl, rfl, h⟩ := h
  exact ⟨G, rfl, rfl, rfl, h.below hb⟩
theorem RunR.frv_form (h : RunR w ρ G s) : ∃ g cap, G.frv = .slice (some ⟨g, 0, none⟩) (G.bs.length + 1) cap := by
  obtain ⟨g, cap, e, _⟩ := h.frow.form (by simp [RG.fs])
  exact ⟨g, cap, by rw [e]; simp [RG.fs]⟩
end

set_option maxRecDepth 100000 in
set_option maxHeartbeats 8000000 in
theorem number_any {w : World} {ρ : Nat → Option Role} {G : RG} {s : MS} (h : RunR w ρ G s) (op bin v a b f arr jt : Nat) (n : Int) (av : Value) (hv : v < s.top.vars.length) :
    Calls Tryz.prog 72 #[.pointer (some ⟨G.r, 0, none⟩), .agg #[.int .u8 op, .int .i64 (v : Int), .int .i64 (a : Int), .int .i64 (b : Int), .int .i64 n, .int .u8 bin, av, .int .i64 (f : Int), .int .i64 (arr : Int), .int .i64 (jt : Int)], .slice (some ⟨G.t.b, 0, none⟩) s.top.vars.length s.top.vars.length] w fun e w' => e = .returned (.tuple #[]) ∧ ∃ ρ', Runs w' ρ' G.r G.n0 G.gp (s.put v n) ∧ Kp ρ ρ' w w' := by
  have PR := Lib.hid (pre_ins h #[.int .u8 op, .int .i64 (v : Int), .int .i64 (a : Int), .int .i64 (b : Int), .int .i64 n, .int .u8 bin, av, .int .i64 (f : Int), .int .i64 (arr : Int), .int .i64 (jt : Int)])
  have Hv := Lib.hid (show (v : Int) < (s.top.vars.length : Int) by omega)
  go_enter Tryz.func72, Tryz.ntmps72
  go_upto_region 1 with fail
  obtain ⟨W0, hW0⟩ : ∃ W0, W0 = w.alloc (.cells #[.int .u8 op, .int .i64 (v : Int), .int .i64 (a : Int), .int .i64 (b : Int), .int .i64 n, .int .u8 bin, av, .int .i64 (f : Int), .int .i64 (arr : Int), .int .i64 (jt : Int)] 71) := ⟨_, rfl⟩
  obtain ⟨bx, hbx⟩ : ∃ b, b = w.heap.size := ⟨_, rfl⟩
  rw [← hW0, ← hbx] at PR ⊢

  clear hW0 hbx
  have k1 := PR.out.box.cell 1; have k4 := PR.out.box.cell 4
  have lb := PR.out.box.lt
  have fv := PR.out.r.vblk.free v
  have kv := PR.out.r.vcell hv
  have lv := PR.out.r.vblk.lt
  go_wp2_with fail
  go_end0
  have R1 := PR.out.r.putVar v n
  exact ⟨rfl, ρ, R1.runs, PR.out.kp.trans (Kp.set (PR.out.r.fr _ _ G.fs_at).2.2 _)⟩

theorem rows_atM {α : Type} (C : α → List Value) (z : Nat) (hz : ∀ x, (C x).length = z) : ∀ (l : List α) (i k : Nat) (x : α), l[i]? = some x → k < z → (l.flatMap C)[i * z + k]? = (C x)[k]?
  | [], i, k, x, h, _ => by simp at h
  | m :: r, 0, k, x, h, hk => by
    simp at h; subst h
    rw [List.flatMap_cons, Nat.zero_mul, Nat.zero_add, List.getElem?_append_left (by rw [hz]; exact hk)]
  | m :: r, i + 1, k, x, h, hk => by
    have ih := rows_atM C z hz r i k x (by simpa using h) hk
    rw [List.flatMap_cons, List.getElem?_append_right (by rw [hz, Nat.add_mul]; omega), hz, show (i + 1) * z + k - z = i * z + k by rw [Nat.add_mul]; omega]
    exact ih
theorem RunR.acell {w : World} {ρ : Nat → Option Role} {G : RG} {s : MS} (h : RunR w ρ G s) {j b : Nat} {l : List Int} (hb : G.ars[j]? = some b) (hl : s.arr[j]? = some l) : ∃ ab cap, G.arv = .slice (some ⟨ab, 0, none⟩) s.arr.length cap ∧ w.cell? ⟨ab, j, none⟩ = some (.slice (some ⟨b, 0, none⟩) l.length l.length) := by
  have hj := (List.getElem?_eq_some_iff.1 hl).1
  obtain ⟨ab, cap, e, _⟩ := h.arow.form (by omega)
  refine ⟨ab, cap, e, ?_⟩
  have ho := h.arow
  rw [e] at ho
  rw [ho.cellAt j (by omega)]
  have := rows_atM arC 1 (fun _ => rfl) (G.ars.zip s.arr) j 0 (b, l) (by rw [List.getElem?_zip_eq_some]; exact ⟨hb, hl⟩) (by omega)
  rw [Nat.mul_one, Nat.add_zero] at this
  exact this
set_option maxRecDepth 100000 in
set_option maxHeartbeats 8000000 in
theorem cell_yes {w : World} {ρ : Nat → Option Role} {G : RG} {s : MS} (h : RunR w ρ G s) {j b : Nat} {l : List Int} (hb : G.ars[j]? = some b) (hl : s.arr[j]? = some l) (i : Nat) (hi : i < l.length) :
    Calls Tryz.prog 123 #[.pointer (some ⟨G.r, 0, none⟩), .int .i64 (j : Int), .int .i64 (i : Int)] w fun e w' => e = .returned (.pointer (some ⟨b, i, none⟩)) ∧ Below w.heap.size w w' := by
  obtain ⟨ab, cap, ha, hc⟩ := h.acell hb hl
  have hj : (j : Int) < (s.arr.length : Int) := by have := (List.getElem?_eq_some_iff.1 hl).1; omega
  have c4 : w.cell? ⟨G.r, 4, none⟩ = some (.slice (some ⟨ab, 0, none⟩) s.arr.length cap) := (h.run.cell 4).trans (by simp [RG.cells, ha])
  have lr := h.run.lt
  have la := cell_lt' hc
  have hii : (i : Int) < (l.length : Int) := by omega
  have q1 : decide ((i : Int) < (l.length : Int)) = true := decide_eq_true hii
  clear h ha hb hl hi
  go_enter Tryz.func123, Tryz.ntmps123
  go_wp2_with fail
  go_ret
  exact ⟨rfl, Below.refl _ _⟩
set_option maxRecDepth 100000 in
set_option maxHeartbeats 8000000 in
theorem cell_no {w : World} {ρ : Nat → Option Role} {G : RG} {s : MS} (h : RunR w ρ G s) {j b : Nat} {l : List Int} (hb : G.ars[j]? = some b) (hl : s.arr[j]? = some l) (i : Int) (hi : i < 0 ∨ l.length ≤ i) (hle : s.evs.length ≤ 1000000) :
    Calls Tryz.prog 123 #[.pointer (some ⟨G.r, 0, none⟩), .int .i64 (j : Int), .int .i64 i] w fun e w' => e = .returned (.pointer none) ∧ ∃ ρ', Runs w' ρ' G.r G.n0 G.gp (s.see 4 1) ∧ Kp ρ ρ' w w' := by
  obtain ⟨ab, cap, ha, hc⟩ := h.acell hb hl
  have hj : (j : Int) < (s.arr.length : Int) := by have := (List.getElem?_eq_some_iff.1 hl).1; omega
  have c4 : w.cell? ⟨G.r, 4, none⟩ = some (.slice (some ⟨ab, 0, none⟩) s.arr.length cap) := (h.run.cell 4).trans (by simp [RG.cells, ha])
  have lr := h.run.lt
  have la := cell_lt' hc
  have SEE := Lib.hid (see_any h 4 1 hle)
  clear h ha hb hl hle
  by_cases h0 : i < 0
  · have q0 : decide (0 ≤ i) = false := decide_eq_false (by omega)
    have q0' : decide (i ≥ 0) = false := decide_eq_false (by omega)
    clear hi h0
    go_enter Tryz.func123, Tryz.ntmps123
    go_wp2_with fail
    refine SEE.out.mono ?_
    rintro e w1 ⟨rfl, ρ1, hr, hk⟩
    go_wp2_with fail
    go_ret
    exact ⟨rfl, ρ1, hr, hk⟩
  · have q0 : decide (0 ≤ i) = true := decide_eq_true (by omega)
    have q0' : decide (i ≥ 0) = true := decide_eq_true (by omega)
    have q1 : decide (i < (l.length : Int)) = false := decide_eq_false (by omega)
    clear hi h0
    go_enter Tryz.func123, Tryz.ntmps123
    go_wp2_with fail
    refine SEE.out.mono ?_
    rintro e w1 ⟨rfl, ρ1, hr, hk⟩
    go_wp2_with fail
    go_ret
    exact ⟨rfl, ρ1, hr, hk⟩

set_option maxRecDepth 100000 in
set_option maxHeartbeats 8000000 in
theorem copies_any {w : World} {ρ : Nat → Option Role} {G : RG} {s : MS} (h : RunR w ρ G s) (op bin v a b f arr jt : Nat) (n : Int) (av : Value) (hv : v < s.top.vars.length) (ha : a < s.top.vars.length) :
    Calls Tryz.prog 73 #[.pointer (some ⟨G.r, 0, none⟩), .agg #[.int .u8 op, .int .i64 (v : Int), .int .i64 (a : Int), .int .i64 (b : Int), .int .i64 n, .int .u8 bin, av, .int .i64 (f : Int), .int .i64 (arr : Int), .int .i64 (jt : Int)], .slice (some ⟨G.t.b, 0, none⟩) s.top.vars.length s.top.vars.length] w fun e w' => e = .returned (.tuple #[]) ∧ ∃ ρ', Runs w' ρ' G.r G.n0 G.gp (s.put v (s.v a)) ∧ Kp ρ ρ' w w' := by
  have PR := Lib.hid (pre_ins h #[.int .u8 op, .int .i64 (v : Int), .int .i64 (a : Int), .int .i64 (b : Int), .int .i64 n, .int .u8 bin, av, .int .i64 (f : Int), .int .i64 (arr : Int), .int .i64 (jt : Int)])
  have Hv := Lib.hid (show (v : Int) < (s.top.vars.length : Int) by omega)
  have Ha := Lib.hid (show (a : Int) < (s.top.vars.length : Int) by omega)
  obtain ⟨xa, hxa⟩ : ∃ x, x = s.v (a : Int) := ⟨_, rfl⟩
  have Va := Lib.hid (PR.out.r.vcell (a := a) ha)
  rw [← hxa] at Va ⊢
  clear hxa
  go_enter Tryz.func73, Tryz.ntmps73
  go_upto_region 1 with fail
  obtain ⟨W0, hW0⟩ : ∃ W0, W0 = w.alloc (.cells #[.int .u8 op, .int .i64 (v : Int), .int .i64 (a : Int), .int .i64 (b : Int), .int .i64 n, .int .u8 bin, av, .int .i64 (f : Int), .int .i64 (arr : Int), .int .i64 (jt : Int)] 71) := ⟨_, rfl⟩
  obtain ⟨bx, hbx⟩ : ∃ b, b = w.heap.size := ⟨_, rfl⟩
  rw [← hW0, ← hbx] at PR ⊢
  rw [← hW0] at Va
  clear hW0 hbx
  refine wp_region_float [some (none, .slice (some ⟨G.t.b, 0, none⟩) s.top.vars.length s.top.vars.length), some (none, .pointer (some ⟨bx, 1, none⟩)), some (none, .int .i64 (v : Int)), some (none, .slice (some ⟨G.t.b, 0, none⟩) s.top.vars.length s.top.vars.length), some (none, .pointer (some ⟨bx, 2, none⟩)), some (none, .int .i64 (a : Int)), some (none, .pointer (some ⟨G.t.b, a, none⟩)), some (none, .int .i64 xa), some (none, .pointer (some ⟨G.t.b, v, none⟩)), none] (fun W => Below W0.heap.size W0 W) 1 mixedT (fun _ a a2 _ hd h => by cases a; cases a2; cases hd; exact h) (by kernel_rfl) (fun _ _ h => h) ?_
  intro FF AA Wd hA hF hWh hWd
  have hL : HasL FF [(2, .slice (some ⟨G.t.b, 0, none⟩) s.top.vars.length s.top.vars.length), (4, .pointer (some ⟨bx, 0, none⟩)), (6, .slice (some ⟨G.t.b, 0, none⟩) s.top.vars.length s.top.vars.length), (7, .pointer (some ⟨bx, 1, none⟩)), (8, .int .i64 (v : Int)), (9, .slice (some ⟨G.t.b, 0, none⟩) s.top.vars.length s.top.vars.length), (10, .pointer (some ⟨bx, 2, none⟩)), (11, .int .i64 (a : Int)), (12, .pointer (some ⟨G.t.b, a, none⟩)), (13, .int .i64 xa), (14, .pointer (some ⟨G.t.b, v, none⟩))] := by unfold HasL; rw [hF, hA]; kernel_rfl
  have HF := Lib.hid hF; clear hF; have HA := Lib.hid hA; clear hA
  refine ⟨?_, ?_⟩
  · intro Z hZ
    repeat clear ‹∀ (a : Act) (w : World), Code.wp Tryz.prog _ _ a w → _›
    have gff := gd_ff
    have gtt := gd_tt
    exact
    ResF.cons (FlRes.val (by have a2 := hL.at 0 rfl; go_simp)) (
    ResF.cons (FlRes.val (by have a4 := hL.at 1 rfl; go_simp)) (
    ResF.cons (FlRes.val (by have a7 := hL.at 3 rfl; have kk := get_b hZ (PR.out.box.cell 1); go_simp)) (
    ResF.cons (FlRes.val (by have a2 := hL.at 0 rfl; go_simp)) (
    ResF.cons (FlRes.val (by have a4 := hL.at 1 rfl; go_simp)) (
    ResF.cons (FlRes.val (by have a10 := hL.at 6 rfl; have kk := get_b hZ (PR.out.box.cell 2); go_simp)) (
    ResF.cons (FlRes.val (by have a9 := hL.at 5 rfl; have a11 := hL.at 7 rfl; have hi0 := Ha.out; go_simp)) (
    ResF.cons (FlRes.val (by have a12 := hL.at 8 rfl; have kk := get_b hZ Va.out; go_simp)) (
    ResF.cons (FlRes.val (by have a6 := hL.at 2 rfl; have a8 := hL.at 4 rfl; have hi0 := Hv.out; go_simp)) (
    ResF.pass (
    ResF.nil))))))))))
  clear hL
  obtain ⟨gf, hFF⟩ : ∃ gf : Nat → Value, FF = putL [(6, gf 6), (7, gf 7), (8, gf 8), (9, gf 9), (10, gf 10), (11, gf 11), (12, gf 12), (13, .int .i64 xa), (14, .pointer (some ⟨G.t.b, v, none⟩))] AA := ⟨fun k => FF.tmps.getD k undef, by rw [HF.out, HA.out]; kernel_rfl⟩
  clear HF
  rw [HA.out] at hFF; clear HA
  simp only [putL, Act.put, List.setIfInBounds_toArray, List.set_cons_zero, List.set_cons_succ] at hFF
  subst hFF
  refine wpAnyS_one 9 rfl (by kernel_rfl) (fun KK hK => ?_)
  have P2 := PR.out.r.below hWd
  have fv := P2.vblk.free v
  have kv := P2.vcell hv
  have lv := P2.vblk.lt
  go_simp
  refine hK.out _ _ (Or.inr (by kernel_rfl)) ?_
  clear hK
  refine wpAnyS_end (by kernel_rfl) ?_
  go_end0
  exact ⟨rfl, ρ, (P2.putVar v xa).runs, (PR.out.kp.trans (Kp.of_below hWd)).trans (Kp.set (P2.fr _ _ G.fs_at).2.2 _)⟩

set_option maxRecDepth 100000 in
set_option maxHeartbeats 8000000 in
theorem bin_any {w : World} {ρ : Nat → Option Role} {G : RG} {s : MS} (h : RunR w ρ G s) (op bin v a b f arr jt : Nat) (n : Int) (av : Value) (hv : v < s.top.vars.length) (ha : a < s.top.vars.length) (hb : b < s.top.vars.length) (hbin : bin ∈ binsW) (hI : I64 (s.v a)) :
    Calls Tryz.prog 74 #[.pointer (some ⟨G.r, 0, none⟩), .agg #[.int .u8 op, .int .i64 (v : Int), .int .i64 (a : Int), .int .i64 (b : Int), .int .i64 n, .int .u8 bin, av, .int .i64 (f : Int), .int .i64 (arr : Int), .int .i64 (jt : Int)], .slice (some ⟨G.t.b, 0, none⟩) s.top.vars.length s.top.vars.length] w fun e w' => e = .returned (.tuple #[]) ∧ ∃ ρ', Runs w' ρ' G.r G.n0 G.gp (s.put v (doW bin (s.v a) (s.v b))) ∧ Kp ρ ρ' w w' := by
  have HBIN := Lib.hid hbin; clear hbin
  have PR := Lib.hid (pre_ins h #[.int .u8 op, .int .i64 (v : Int), .int .i64 (a : Int), .int .i64 (b : Int), .int .i64 n, .int .u8 bin, av, .int .i64 (f : Int), .int .i64 (arr : Int), .int .i64 (jt : Int)])
  have Hv := Lib.hid (show (v : Int) < (s.top.vars.length : Int) by omega)
  have Ha := Lib.hid (show (a : Int) < (s.top.vars.length : Int) by omega)
  have Hb := Lib.hid (show (b : Int) < (s.top.vars.length : Int) by omega)
  obtain ⟨xa, hxa⟩ : ∃ x, x = s.v (a : Int) := ⟨_, rfl⟩
  have Va := Lib.hid (PR.out.r.vcell (a := a) ha)
  rw [← hxa] at Va hI ⊢
  have HI := Lib.hid hI; clear hI
  clear hxa
  obtain ⟨xb, hxb⟩ : ∃ x, x = s.v (b : Int) := ⟨_, rfl⟩
  have Vb := Lib.hid (PR.out.r.vcell (a := b) hb)
  rw [← hxb] at Vb ⊢
  clear hxb
  go_enter Tryz.func74, Tryz.ntmps74
  go_upto_region 1 with fail
  obtain ⟨W0, hW0⟩ : ∃ W0, W0 = w.alloc (.cells #[.int .u8 op, .int .i64 (v : Int), .int .i64 (a : Int), .int .i64 (b : Int), .int .i64 n, .int .u8 bin, av, .int .i64 (f : Int), .int .i64 (arr : Int), .int .i64 (jt : Int)] 71) := ⟨_, rfl⟩
  obtain ⟨bx, hbx⟩ : ∃ b, b = w.heap.size := ⟨_, rfl⟩
  rw [← hW0, ← hbx] at PR ⊢
  rw [← hW0] at Va
  rw [← hW0] at Vb
  clear hW0 hbx
  refine wp_region_float [some (none, .slice (some ⟨G.t.b, 0, none⟩) s.top.vars.length s.top.vars.length), some (none, .pointer (some ⟨bx, 1, none⟩)), some (none, .int .i64 (v : Int)), some (none, .pointer (some ⟨bx, 5, none⟩)), some (none, .int .u8 bin), some (none, .slice (some ⟨G.t.b, 0, none⟩) s.top.vars.length s.top.vars.length), some (none, .pointer (some ⟨bx, 2, none⟩)), some (none, .int .i64 (a : Int)), some (none, .pointer (some ⟨G.t.b, a, none⟩)), some (none, .int .i64 xa), some (none, .slice (some ⟨G.t.b, 0, none⟩) s.top.vars.length s.top.vars.length), some (none, .pointer (some ⟨bx, 3, none⟩)), some (none, .int .i64 (b : Int)), some (none, .pointer (some ⟨G.t.b, b, none⟩)), some (none, .int .i64 xb), none, none, none] (fun W => Below W0.heap.size W0 W) 3 mixedT (fun _ a a2 _ hd h => by cases a; cases a2; cases hd; exact h) (by kernel_rfl) (fun _ _ h => h) ?_
  intro FF AA Wd hA hF hWh hWd
  have hL : HasL FF [(2, .slice (some ⟨G.t.b, 0, none⟩) s.top.vars.length s.top.vars.length), (4, .pointer (some ⟨bx, 0, none⟩)), (6, .slice (some ⟨G.t.b, 0, none⟩) s.top.vars.length s.top.vars.length), (7, .pointer (some ⟨bx, 1, none⟩)), (8, .int .i64 (v : Int)), (9, .pointer (some ⟨bx, 5, none⟩)), (10, .int .u8 bin), (11, .slice (some ⟨G.t.b, 0, none⟩) s.top.vars.length s.top.vars.length), (12, .pointer (some ⟨bx, 2, none⟩)), (13, .int .i64 (a : Int)), (14, .pointer (some ⟨G.t.b, a, none⟩)), (15, .int .i64 xa), (16, .slice (some ⟨G.t.b, 0, none⟩) s.top.vars.length s.top.vars.length), (17, .pointer (some ⟨bx, 3, none⟩)), (18, .int .i64 (b : Int)), (19, .pointer (some ⟨G.t.b, b, none⟩)), (20, .int .i64 xb)] := by unfold HasL; rw [hF, hA]; kernel_rfl
  have HF := Lib.hid hF; clear hF; have HA := Lib.hid hA; clear hA
  refine ⟨?_, ?_⟩
  · intro Z hZ
    repeat clear ‹∀ (a : Act) (w : World), Code.wp Tryz.prog _ _ a w → _›
    have gff := gd_ff
    have gtt := gd_tt
    exact
    ResF.cons (FlRes.val (by have a2 := hL.at 0 rfl; go_simp)) (
    ResF.cons (FlRes.val (by have a4 := hL.at 1 rfl; go_simp)) (
    ResF.cons (FlRes.val (by have a7 := hL.at 3 rfl; have kk := get_b hZ (PR.out.box.cell 1); go_simp)) (
    ResF.cons (FlRes.val (by have a4 := hL.at 1 rfl; go_simp)) (
    ResF.cons (FlRes.val (by have a9 := hL.at 5 rfl; have kk := get_b hZ (PR.out.box.cell 5); go_simp)) (
    ResF.cons (FlRes.val (by have a2 := hL.at 0 rfl; go_simp)) (
    ResF.cons (FlRes.val (by have a4 := hL.at 1 rfl; go_simp)) (
    ResF.cons (FlRes.val (by have a12 := hL.at 8 rfl; have kk := get_b hZ (PR.out.box.cell 2); go_simp)) (
    ResF.cons (FlRes.val (by have a11 := hL.at 7 rfl; have a13 := hL.at 9 rfl; have hi0 := Ha.out; go_simp)) (
    ResF.cons (FlRes.val (by have a14 := hL.at 10 rfl; have kk := get_b hZ Va.out; go_simp)) (
    ResF.cons (FlRes.val (by have a2 := hL.at 0 rfl; go_simp)) (
    ResF.cons (FlRes.val (by have a4 := hL.at 1 rfl; go_simp)) (
    ResF.cons (FlRes.val (by have a17 := hL.at 13 rfl; have kk := get_b hZ (PR.out.box.cell 3); go_simp)) (
    ResF.cons (FlRes.val (by have a16 := hL.at 12 rfl; have a18 := hL.at 14 rfl; have hi0 := Hb.out; go_simp)) (
    ResF.cons (FlRes.val (by have a19 := hL.at 15 rfl; have kk := get_b hZ Vb.out; go_simp)) (
    ResF.pass (
    ResF.pass (
    ResF.pass (
    ResF.nil))))))))))))))))))
  clear hL
  obtain ⟨gf, hFF⟩ : ∃ gf : Nat → Value, FF = putL [(6, .slice (some ⟨G.t.b, 0, none⟩) s.top.vars.length s.top.vars.length), (7, gf 7), (8, .int .i64 (v : Int)), (9, gf 9), (10, .int .u8 bin), (11, gf 11), (12, gf 12), (13, gf 13), (14, gf 14), (15, .int .i64 xa), (16, gf 16), (17, gf 17), (18, gf 18), (19, gf 19), (20, .int .i64 xb)] AA := ⟨fun k => FF.tmps.getD k undef, by rw [HF.out, HA.out]; kernel_rfl⟩
  clear HF
  rw [HA.out] at hFF; clear HA
  simp only [putL, Act.put, List.setIfInBounds_toArray, List.set_cons_zero, List.set_cons_succ] at hFF
  subst hFF
  refine wpAnyS_one 15 rfl (by kernel_rfl) (fun KK hK => ?_)
  go_simp
  refine (do_val bin HBIN.out xa xb HI.out Wd).mono ?_
  rintro e w1 ⟨rfl, rfl⟩
  go_simp
  refine hK.out _ _ (Or.inl hWd) ?_
  clear hK
  have P2 := PR.out.r.below hWd
  have fv := P2.vblk.free v
  have kv := P2.vcell hv
  have lv := P2.vblk.lt
  have hv0 := Hv.out
  refine wpAnyS_one 16 rfl (by kernel_rfl) (fun KK hK => ?_)
  go_simp
  refine hK.out _ _ (Or.inl hWd) ?_
  clear hK
  refine wpAnyS_one 17 rfl (by kernel_rfl) (fun KK hK => ?_)
  go_simp
  refine hK.out _ _ (Or.inr (by kernel_rfl)) ?_
  clear hK
  refine wpAnyS_end (by kernel_rfl) ?_
  go_end0
  exact ⟨rfl, ρ, (P2.putVar v (doW bin xa xb)).runs, (PR.out.kp.trans (Kp.of_below hWd)).trans (Kp.set (P2.fr _ _ G.fs_at).2.2 _)⟩

theorem RunR.aval {w : World} {ρ : Nat → Option Role} {G : RG} {s : MS} (h : RunR w ρ G s) {j b : Nat} {l : List Int} (hb : G.ars[j]? = some b) (hl : s.arr[j]? = some l) {i : Nat} (hi : i < l.length) : w.cell? ⟨b, i, none⟩ = some (.int .i64 (l.getD i 0)) := by
  rw [(h.arr j b l hb hl).1.cell]
  unfold intsC
  rw [List.getElem?_toArray, List.getElem?_map, List.getD_eq_getElem?_getD, List.getElem?_eq_getElem hi]
  rfl

set_option maxRecDepth 100000 in
set_option maxHeartbeats 8000000 in
theorem load_yes_any {w : World} {ρ : Nat → Option Role} {G : RG} {s : MS} (h : RunR w ρ G s) (op bin v a b f arr jt : Nat) (n : Int) (av : Value) (hv : v < s.top.vars.length) (ha : a < s.top.vars.length) {bb i : Nat} {l : List Int} (hb : G.ars[arr]? = some bb) (hl : s.arr[arr]? = some l) (hi : i < l.length) (hxa : s.v (a : Int) = (i : Int)) :
    Calls Tryz.prog 75 #[.pointer (some ⟨G.r, 0, none⟩), .agg #[.int .u8 op, .int .i64 (v : Int), .int .i64 (a : Int), .int .i64 (b : Int), .int .i64 n, .int .u8 bin, av, .int .i64 (f : Int), .int .i64 (arr : Int), .int .i64 (jt : Int)], .slice (some ⟨G.t.b, 0, none⟩) s.top.vars.length s.top.vars.length] w fun e w' => e = .returned (.tuple #[]) ∧ ∃ ρ', Runs w' ρ' G.r G.n0 G.gp (s.put v (l.getD i 0)) ∧ Kp ρ ρ' w w' := by
  obtain ⟨y, hy⟩ : ∃ y, y = l.getD i 0 := ⟨_, rfl⟩
  rw [← hy]
  have HY := Lib.hid hy; clear hy
  have PR := Lib.hid (pre_ins h #[.int .u8 op, .int .i64 (v : Int), .int .i64 (a : Int), .int .i64 (b : Int), .int .i64 n, .int .u8 bin, av, .int .i64 (f : Int), .int .i64 (arr : Int), .int .i64 (jt : Int)])
  have Ha := Lib.hid (show (a : Int) < (s.top.vars.length : Int) by omega)
  have Hv := Lib.hid (show (v : Int) < (s.top.vars.length : Int) by omega)
  have Va := Lib.hid (PR.out.r.vcell (a := a) ha)
  rw [hxa] at Va
  clear hxa
  go_enter Tryz.func75, Tryz.ntmps75
  go_upto_region 1 with fail
  obtain ⟨W0, hW0⟩ : ∃ W0, W0 = w.alloc (.cells #[.int .u8 op, .int .i64 (v : Int), .int .i64 (a : Int), .int .i64 (b : Int), .int .i64 n, .int .u8 bin, av, .int .i64 (f : Int), .int .i64 (arr : Int), .int .i64 (jt : Int)] 71) := ⟨_, rfl⟩
  obtain ⟨bx, hbx⟩ : ∃ b, b = w.heap.size := ⟨_, rfl⟩
  rw [← hW0, ← hbx] at PR ⊢
  rw [← hW0] at Va
  clear hW0 hbx
  refine wp_region_float [some (none, .pointer (some ⟨G.r, 0, none⟩)), some (none, .pointer (some ⟨bx, 8, none⟩)), some (none, .int .i64 (arr : Int)), some (none, .slice (some ⟨G.t.b, 0, none⟩) s.top.vars.length s.top.vars.length), some (none, .pointer (some ⟨bx, 2, none⟩)), some (none, .int .i64 (a : Int)), some (none, .pointer (some ⟨G.t.b, a, none⟩)), some (none, .int .i64 (i : Int)), none, none] (fun W => Below W0.heap.size W0 W) 2 mixedT (fun _ a a2 _ hd h => by cases a; cases a2; cases hd; exact h) (by kernel_rfl) (fun _ _ h => h) ?_
  intro FF AA Wd hA hF hWh hWd
  have hL : HasL FF [(0, .pointer (some ⟨G.r, 0, none⟩)), (2, .slice (some ⟨G.t.b, 0, none⟩) s.top.vars.length s.top.vars.length), (4, .pointer (some ⟨bx, 0, none⟩)), (7, .pointer (some ⟨G.r, 0, none⟩)), (8, .pointer (some ⟨bx, 8, none⟩)), (9, .int .i64 (arr : Int)), (10, .slice (some ⟨G.t.b, 0, none⟩) s.top.vars.length s.top.vars.length), (11, .pointer (some ⟨bx, 2, none⟩)), (12, .int .i64 (a : Int)), (13, .pointer (some ⟨G.t.b, a, none⟩)), (14, .int .i64 (i : Int))] := by unfold HasL; rw [hF, hA]; kernel_rfl
  have HF := Lib.hid hF; clear hF; have HA := Lib.hid hA; clear hA
  refine ⟨?_, ?_⟩
  · intro Z hZ
    repeat clear ‹∀ (a : Act) (w : World), Code.wp Tryz.prog _ _ a w → _›
    have gff := gd_ff
    have gtt := gd_tt
    exact
    ResF.cons (FlRes.val (by have a0 := hL.at 0 rfl; go_simp)) (
    ResF.cons (FlRes.val (by have a4 := hL.at 2 rfl; go_simp)) (
    ResF.cons (FlRes.val (by have a8 := hL.at 4 rfl; have kk := get_b hZ (PR.out.box.cell 8); go_simp)) (
    ResF.cons (FlRes.val (by have a2 := hL.at 1 rfl; go_simp)) (
    ResF.cons (FlRes.val (by have a4 := hL.at 2 rfl; go_simp)) (
    ResF.cons (FlRes.val (by have a11 := hL.at 7 rfl; have kk := get_b hZ (PR.out.box.cell 2); go_simp)) (
    ResF.cons (FlRes.val (by have a10 := hL.at 6 rfl; have a12 := hL.at 8 rfl; have hi0 := Ha.out; go_simp)) (
    ResF.cons (FlRes.val (by have a13 := hL.at 9 rfl; have kk := get_b hZ Va.out; go_simp)) (
    ResF.pass (
    ResF.pass (
    ResF.nil))))))))))
  clear hL
  obtain ⟨gf, hFF⟩ : ∃ gf : Nat → Value, FF = putL [(7, .pointer (some ⟨G.r, 0, none⟩)), (8, gf 8), (9, .int .i64 (arr : Int)), (10, gf 10), (11, gf 11), (12, gf 12), (13, gf 13), (14, .int .i64 (i : Int))] AA := ⟨fun k => FF.tmps.getD k undef, by rw [HF.out, HA.out]; kernel_rfl⟩
  clear HF
  rw [HA.out] at hFF; clear HA
  simp only [putL, Act.put, List.setIfInBounds_toArray, List.set_cons_zero, List.set_cons_succ] at hFF
  subst hFF
  have P2 := Lib.hid (PR.out.r.below hWd)
  have HK2 := Lib.hid (PR.out.kp.trans (Kp.of_below hWd))
  refine wpAnyS_one 8 rfl (by kernel_rfl) (fun KK hK => ?_)
  go_simp
  refine (cell_yes P2.out hb hl i hi).mono ?_
  rintro e w1 ⟨rfl, hb1⟩
  go_simp
  have P3 := Lib.hid (P2.out.below hb1)
  have HK3 := Lib.hid (HK2.out.trans (Kp.of_below hb1))
  have hbw := hWd.trans (hb1.mono hWd.size)
  have BX := Lib.hid (PR.out.box.below hbw)
  refine hK.out _ _ (Or.inl hbw) ?_
  clear hK
  refine wpAnyS_one 9 rfl (by kernel_rfl) (fun KK hK => ?_)
  go_simp
  refine hK.out _ _ (Or.inl hbw) ?_
  clear hK
  refine wpAnyS_end (by kernel_rfl) ?_
  have hav := P3.out.aval hb hl hi
  rw [← HY.out] at hav
  have AV := Lib.hid hav
  clear hav hb1 hbw hWd hWh PR Va P2 HK2
  go_upto_region 3 with fail
  refine wp_region_float [some (none, .slice (some ⟨G.t.b, 0, none⟩) s.top.vars.length s.top.vars.length), some (none, .pointer (some ⟨bx, 1, none⟩)), some (none, .int .i64 (v : Int)), some (none, .pointer (some ⟨bb, i, none⟩)), some (none, .pointer (some ⟨bb, i, none⟩)), some (none, .int .i64 y), some (none, .pointer (some ⟨G.t.b, v, none⟩)), none] (fun W => Below w1.heap.size w1 W) 1 mixedT (fun _ a a2 _ hd h => by cases a; cases a2; cases hd; exact h) (by kernel_rfl) (fun _ _ h => h) ?_
  intro FF AA Wd hA hF hWh hWd
  have hL : HasL FF [(2, .slice (some ⟨G.t.b, 0, none⟩) s.top.vars.length s.top.vars.length), (4, .pointer (some ⟨bx, 0, none⟩)), (6, .pointer (some ⟨bb, i, none⟩)), (18, .slice (some ⟨G.t.b, 0, none⟩) s.top.vars.length s.top.vars.length), (19, .pointer (some ⟨bx, 1, none⟩)), (20, .int .i64 (v : Int)), (21, .pointer (some ⟨bb, i, none⟩)), (22, .pointer (some ⟨bb, i, none⟩)), (23, .int .i64 y), (24, .pointer (some ⟨G.t.b, v, none⟩))] := by unfold HasL; rw [hF, hA]; kernel_rfl
  have HF := Lib.hid hF; clear hF; have HA := Lib.hid hA; clear hA
  refine ⟨?_, ?_⟩
  · intro Z hZ
    repeat clear ‹∀ (a : Act) (w : World), Code.wp Tryz.prog _ _ a w → _›
    have ggf := gd_ff
    have gtt := gd_tt
    exact
    ResF.cons (FlRes.val (by have a2 := hL.at 0 rfl; go_simp)) (
    ResF.cons (FlRes.val (by have a4 := hL.at 1 rfl; go_simp)) (
    ResF.cons (FlRes.val (by have a19 := hL.at 4 rfl; have kk := get_b hZ (BX.out.cell 1); go_simp)) (
    ResF.cons (FlRes.val (by have a6 := hL.at 2 rfl; go_simp)) (
    ResF.cons (FlRes.val (by have a21 := hL.at 6 rfl; go_simp)) (
    ResF.cons (FlRes.val (by have a22 := hL.at 7 rfl; have kk := get_b hZ AV.out; go_simp)) (
    ResF.cons (FlRes.val (by have a18 := hL.at 3 rfl; have a20 := hL.at 5 rfl; have hi0 := Hv.out; go_simp)) (
    ResF.pass (
    ResF.nil))))))))
  clear hL
  obtain ⟨gg, hFF⟩ : ∃ gg : Nat → Value, FF = putL [(18, gg 18), (19, gg 19), (20, gg 20), (21, gg 21), (22, gg 22), (23, .int .i64 y), (24, .pointer (some ⟨G.t.b, v, none⟩))] AA := ⟨fun k => FF.tmps.getD k undef, by rw [HF.out, HA.out]; kernel_rfl⟩
  clear HF
  rw [HA.out] at hFF; clear HA
  simp only [putL, Act.put, List.setIfInBounds_toArray, List.set_cons_zero, List.set_cons_succ] at hFF
  subst hFF
  refine wpAnyS_one 7 rfl (by kernel_rfl) (fun KK hK => ?_)
  have P4 := P3.out.below hWd
  have fv := P4.vblk.free v
  have kv := P4.vcell hv
  have lv := P4.vblk.lt
  go_simp
  refine hK.out _ _ (Or.inr (by kernel_rfl)) ?_
  clear hK
  refine wpAnyS_end (by kernel_rfl) ?_
  go_end0
  exact ⟨rfl, ρ, (P4.putVar v y).runs, (HK3.out.trans (Kp.of_below hWd)).trans (Kp.set (P4.fr _ _ G.fs_at).2.2 _)⟩

set_option maxRecDepth 100000 in
set_option maxHeartbeats 8000000 in
theorem load_no_any {w : World} {ρ : Nat → Option Role} {G : RG} {s : MS} (h : RunR w ρ G s) (op bin v a b f arr jt : Nat) (n : Int) (av : Value) (ha : a < s.top.vars.length) {bb : Nat} {l : List Int} (hb : G.ars[arr]? = some bb) (hl : s.arr[arr]? = some l) (hi : s.v (a : Int) < 0 ∨ l.length ≤ s.v (a : Int)) (hle : s.evs.length ≤ 1000000) :
    Calls Tryz.prog 75 #[.pointer (some ⟨G.r, 0, none⟩), .agg #[.int .u8 op, .int .i64 (v : Int), .int .i64 (a : Int), .int .i64 (b : Int), .int .i64 n, .int .u8 bin, av, .int .i64 (f : Int), .int .i64 (arr : Int), .int .i64 (jt : Int)], .slice (some ⟨G.t.b, 0, none⟩) s.top.vars.length s.top.vars.length] w fun e w' => e = .returned (.tuple #[]) ∧ ∃ ρ', Runs w' ρ' G.r G.n0 G.gp (s.see 4 1) ∧ Kp ρ ρ' w w' := by
  have PR := Lib.hid (pre_ins h #[.int .u8 op, .int .i64 (v : Int), .int .i64 (a : Int), .int .i64 (b : Int), .int .i64 n, .int .u8 bin, av, .int .i64 (f : Int), .int .i64 (arr : Int), .int .i64 (jt : Int)])
  have Ha := Lib.hid (show (a : Int) < (s.top.vars.length : Int) by omega)
  obtain ⟨xa, hxa⟩ : ∃ x, x = s.v (a : Int) := ⟨_, rfl⟩
  have Va := Lib.hid (PR.out.r.vcell (a := a) ha)
  rw [← hxa] at Va hi
  clear hxa
  go_enter Tryz.func75, Tryz.ntmps75
  go_upto_region 1 with fail
  obtain ⟨W0, hW0⟩ : ∃ W0, W0 = w.alloc (.cells #[.int .u8 op, .int .i64 (v : Int), .int .i64 (a : Int), .int .i64 (b : Int), .int .i64 n, .int .u8 bin, av, .int .i64 (f : Int), .int .i64 (arr : Int), .int .i64 (jt : Int)] 71) := ⟨_, rfl⟩
  obtain ⟨bx, hbx⟩ : ∃ b, b = w.heap.size := ⟨_, rfl⟩
  rw [← hW0, ← hbx] at PR ⊢
  rw [← hW0] at Va
  clear hW0 hbx
  refine wp_region_float [some (none, .pointer (some ⟨G.r, 0, none⟩)), some (none, .pointer (some ⟨bx, 8, none⟩)), some (none, .int .i64 (arr : Int)), some (none, .slice (some ⟨G.t.b, 0, none⟩) s.top.vars.length s.top.vars.length), some (none, .pointer (some ⟨bx, 2, none⟩)), some (none, .int .i64 (a : Int)), some (none, .pointer (some ⟨G.t.b, a, none⟩)), some (none, .int .i64 xa), none, none] (fun W => Below W0.heap.size W0 W) 2 mixedT (fun _ a a2 _ hd h => by cases a; cases a2; cases hd; exact h) (by kernel_rfl) (fun _ _ h => h) ?_
  intro FF AA Wd hA hF hWh hWd
  have hL : HasL FF [(0, .pointer (some ⟨G.r, 0, none⟩)), (2, .slice (some ⟨G.t.b, 0, none⟩) s.top.vars.length s.top.vars.length), (4, .pointer (some ⟨bx, 0, none⟩)), (7, .pointer (some ⟨G.r, 0, none⟩)), (8, .pointer (some ⟨bx, 8, none⟩)), (9, .int .i64 (arr : Int)), (10, .slice (some ⟨G.t.b, 0, none⟩) s.top.vars.length s.top.vars.length), (11, .pointer (some ⟨bx, 2, none⟩)), (12, .int .i64 (a : Int)), (13, .pointer (some ⟨G.t.b, a, none⟩)), (14, .int .i64 xa)] := by unfold HasL; rw [hF, hA]; kernel_rfl
  have HF := Lib.hid hF; clear hF; have HA := Lib.hid hA; clear hA
  refine ⟨?_, ?_⟩
  · intro Z hZ
    repeat clear ‹∀ (a : Act) (w : World), Code.wp Tryz.prog _ _ a w → _›
    have gff := gd_ff
    have gtt := gd_tt
    exact
    ResF.cons (FlRes.val (by have a0 := hL.at 0 rfl; go_simp)) (
    ResF.cons (FlRes.val (by have a4 := hL.at 2 rfl; go_simp)) (
    ResF.cons (FlRes.val (by have a8 := hL.at 4 rfl; have kk := get_b hZ (PR.out.box.cell 8); go_simp)) (
    ResF.cons (FlRes.val (by have a2 := hL.at 1 rfl; go_simp)) (
    ResF.cons (FlRes.val (by have a4 := hL.at 2 rfl; go_simp)) (
    ResF.cons (FlRes.val (by have a11 := hL.at 7 rfl; have kk := get_b hZ (PR.out.box.cell 2); go_simp)) (
    ResF.cons (FlRes.val (by have a10 := hL.at 6 rfl; have a12 := hL.at 8 rfl; have hi0 := Ha.out; go_simp)) (
    ResF.cons (FlRes.val (by have a13 := hL.at 9 rfl; have kk := get_b hZ Va.out; go_simp)) (
    ResF.pass (
    ResF.pass (
    ResF.nil))))))))))
  clear hL
  obtain ⟨gf, hFF⟩ : ∃ gf : Nat → Value, FF = putL [(7, .pointer (some ⟨G.r, 0, none⟩)), (8, gf 8), (9, .int .i64 (arr : Int)), (10, gf 10), (11, gf 11), (12, gf 12), (13, gf 13), (14, .int .i64 xa)] AA := ⟨fun k => FF.tmps.getD k undef, by rw [HF.out, HA.out]; kernel_rfl⟩
  clear HF
  rw [HA.out] at hFF; clear HA
  simp only [putL, Act.put, List.setIfInBounds_toArray, List.set_cons_zero, List.set_cons_succ] at hFF
  subst hFF
  have P2 := Lib.hid (PR.out.r.below hWd)
  have HK2 := Lib.hid (PR.out.kp.trans (Kp.of_below hWd))
  refine wpAnyS_one 8 rfl (by kernel_rfl) (fun KK hK => ?_)
  have HNO := Lib.hid (cell_no P2.out hb hl xa hi hle)
  clear hi hb hl hle
  go_simp
  refine HNO.out.mono ?_
  rintro e w1 ⟨rfl, ρ1, hr1, hk1⟩
  go_simp
  have RF := Lib.hid hr1; have KF := Lib.hid (HK2.out.trans hk1)
  refine hK.out _ _ (Or.inr (by kernel_rfl)) ?_
  clear hK
  refine wpAnyS_one 9 rfl (by kernel_rfl) (fun KK hK => ?_)
  go_simp
  refine hK.out _ _ (Or.inr (by kernel_rfl)) ?_
  clear hK
  refine wpAnyS_end (by kernel_rfl) ?_
  clear hr1 hk1
  go_wp2_with fail
  go_end0
  exact ⟨rfl, ρ1, RF.out, KF.out⟩

set_option maxRecDepth 100000 in
set_option maxHeartbeats 8000000 in
theorem store_yes_any {w : World} {ρ : Nat → Option Role} {G : RG} {s : MS} (h : RunR w ρ G s) (op bin v a b f arr jt : Nat) (n : Int) (av : Value) (hbv : b < s.top.vars.length) (ha : a < s.top.vars.length) {bb i : Nat} {l : List Int} (hb : G.ars[arr]? = some bb) (hl : s.arr[arr]? = some l) (hi : i < l.length) (hxa : s.v (a : Int) = (i : Int)) :
    Calls Tryz.prog 76 #[.pointer (some ⟨G.r, 0, none⟩), .agg #[.int .u8 op, .int .i64 (v : Int), .int .i64 (a : Int), .int .i64 (b : Int), .int .i64 n, .int .u8 bin, av, .int .i64 (f : Int), .int .i64 (arr : Int), .int .i64 (jt : Int)], .slice (some ⟨G.t.b, 0, none⟩) s.top.vars.length s.top.vars.length] w fun e w' => e = .returned (.tuple #[]) ∧ ∃ ρ', Runs w' ρ' G.r G.n0 G.gp (s.store arr i (s.v b)) ∧ Kp ρ ρ' w w' := by
  obtain ⟨xb, hxb⟩ : ∃ x, x = s.v (b : Int) := ⟨_, rfl⟩
  have PR := Lib.hid (pre_ins h #[.int .u8 op, .int .i64 (v : Int), .int .i64 (a : Int), .int .i64 (b : Int), .int .i64 n, .int .u8 bin, av, .int .i64 (f : Int), .int .i64 (arr : Int), .int .i64 (jt : Int)])
  have Ha := Lib.hid (show (a : Int) < (s.top.vars.length : Int) by omega)
  have Va := Lib.hid (PR.out.r.vcell (a := a) ha)
  rw [hxa] at Va
  clear hxa
  have VB := Lib.hid (PR.out.r.vcell (a := b) hbv)
  have HBV := Lib.hid (show (b : Int) < (s.top.vars.length : Int) by omega)
  rw [← hxb] at VB ⊢
  clear hxb
  go_enter Tryz.func76, Tryz.ntmps76
  go_upto_region 1 with fail
  obtain ⟨W0, hW0⟩ : ∃ W0, W0 = w.alloc (.cells #[.int .u8 op, .int .i64 (v : Int), .int .i64 (a : Int), .int .i64 (b : Int), .int .i64 n, .int .u8 bin, av, .int .i64 (f : Int), .int .i64 (arr : Int), .int .i64 (jt : Int)] 71) := ⟨_, rfl⟩
  obtain ⟨bx, hbx⟩ : ∃ b, b = w.heap.size := ⟨_, rfl⟩
  rw [← hW0, ← hbx] at PR ⊢
  rw [← hW0] at Va VB
  clear hW0 hbx
  refine wp_region_float [some (none, .pointer (some ⟨G.r, 0, none⟩)), some (none, .pointer (some ⟨bx, 8, none⟩)), some (none, .int .i64 (arr : Int)), some (none, .slice (some ⟨G.t.b, 0, none⟩) s.top.vars.length s.top.vars.length), some (none, .pointer (some ⟨bx, 2, none⟩)), some (none, .int .i64 (a : Int)), some (none, .pointer (some ⟨G.t.b, a, none⟩)), some (none, .int .i64 (i : Int)), none, none] (fun W => Below W0.heap.size W0 W) 2 mixedT (fun _ a a2 _ hd h => by cases a; cases a2; cases hd; exact h) (by kernel_rfl) (fun _ _ h => h) ?_
  intro FF AA Wd hA hF hWh hWd
  have hL : HasL FF [(0, .pointer (some ⟨G.r, 0, none⟩)), (2, .slice (some ⟨G.t.b, 0, none⟩) s.top.vars.length s.top.vars.length), (4, .pointer (some ⟨bx, 0, none⟩)), (7, .pointer (some ⟨G.r, 0, none⟩)), (8, .pointer (some ⟨bx, 8, none⟩)), (9, .int .i64 (arr : Int)), (10, .slice (some ⟨G.t.b, 0, none⟩) s.top.vars.length s.top.vars.length), (11, .pointer (some ⟨bx, 2, none⟩)), (12, .int .i64 (a : Int)), (13, .pointer (some ⟨G.t.b, a, none⟩)), (14, .int .i64 (i : Int))] := by unfold HasL; rw [hF, hA]; kernel_rfl
  have HF := Lib.hid hF; clear hF; have HA := Lib.hid hA; clear hA
  refine ⟨?_, ?_⟩
  · intro Z hZ
    repeat clear ‹∀ (a : Act) (w : World), Code.wp Tryz.prog _ _ a w → _›
    have gff := gd_ff
    have gtt := gd_tt
    exact
    ResF.cons (FlRes.val (by have a0 := hL.at 0 rfl; go_simp)) (
    ResF.cons (FlRes.val (by have a4 := hL.at 2 rfl; go_simp)) (
    ResF.cons (FlRes.val (by have a8 := hL.at 4 rfl; have kk := get_b hZ (PR.out.box.cell 8); go_simp)) (
    ResF.cons (FlRes.val (by have a2 := hL.at 1 rfl; go_simp)) (
    ResF.cons (FlRes.val (by have a4 := hL.at 2 rfl; go_simp)) (
    ResF.cons (FlRes.val (by have a11 := hL.at 7 rfl; have kk := get_b hZ (PR.out.box.cell 2); go_simp)) (
    ResF.cons (FlRes.val (by have a10 := hL.at 6 rfl; have a12 := hL.at 8 rfl; have hi0 := Ha.out; go_simp)) (
    ResF.cons (FlRes.val (by have a13 := hL.at 9 rfl; have kk := get_b hZ Va.out; go_simp)) (
    ResF.pass (
    ResF.pass (
    ResF.nil))))))))))
  clear hL
  obtain ⟨gf, hFF⟩ : ∃ gf : Nat → Value, FF = putL [(7, .pointer (some ⟨G.r, 0, none⟩)), (8, gf 8), (9, .int .i64 (arr : Int)), (10, gf 10), (11, gf 11), (12, gf 12), (13, gf 13), (14, .int .i64 (i : Int))] AA := ⟨fun k => FF.tmps.getD k undef, by rw [HF.out, HA.out]; kernel_rfl⟩
  clear HF
  rw [HA.out] at hFF; clear HA
  simp only [putL, Act.put, List.setIfInBounds_toArray, List.set_cons_zero, List.set_cons_succ] at hFF
  subst hFF
  have P2 := Lib.hid (PR.out.r.below hWd)
  have HK2 := Lib.hid (PR.out.kp.trans (Kp.of_below hWd))
  refine wpAnyS_one 8 rfl (by kernel_rfl) (fun KK hK => ?_)
  go_simp
  refine (cell_yes P2.out hb hl i hi).mono ?_
  rintro e w1 ⟨rfl, hb1⟩
  go_simp
  have P3 := Lib.hid (P2.out.below hb1)
  have HK3 := Lib.hid (HK2.out.trans (Kp.of_below hb1))
  have hbw := hWd.trans (hb1.mono hWd.size)
  have BX := Lib.hid (PR.out.box.below hbw)
  refine hK.out _ _ (Or.inl hbw) ?_
  clear hK
  refine wpAnyS_one 9 rfl (by kernel_rfl) (fun KK hK => ?_)
  go_simp
  refine hK.out _ _ (Or.inl hbw) ?_
  clear hK
  refine wpAnyS_end (by kernel_rfl) ?_
  have hav := P3.out.aval hb hl hi
  have fa := (P3.out.arr arr bb l hb hl).1.free i
  have la := (P3.out.arr arr bb l hb hl).1.lt
  have k3 := BX.out.cell 3
  have lb := BX.out.lt
  have kb := get_b hbw VB.out
  have hbv0 := HBV.out
  have lv := P3.out.vblk.lt
  have RF := Lib.hid (P3.out.setArr hb hl i xb)
  have KF := Lib.hid (HK3.out.trans (Kp.set (a := ⟨bb, i, none⟩) (P3.out.arr arr bb l hb hl).2 (.int .i64 xb)))
  have HE := Lib.hid (show s.store (arr : Int) (i : Int) xb = { s with arr := s.arr.set arr (l.set i xb) } by simp [MS.store, hl])
  clear hb1 hbw hWd hWh PR Va VB P2 HK2 P3 HK3 hb hl
  go_wp2_with fail
  go_end0
  rw [HE.out]
  exact ⟨rfl, ρ, RF.out.runs, KF.out⟩

set_option maxRecDepth 100000 in
set_option maxHeartbeats 8000000 in
theorem store_no_any {w : World} {ρ : Nat → Option Role} {G : RG} {s : MS} (h : RunR w ρ G s) (op bin v a b f arr jt : Nat) (n : Int) (av : Value) (ha : a < s.top.vars.length) {bb : Nat} {l : List Int} (hb : G.ars[arr]? = some bb) (hl : s.arr[arr]? = some l) (hi : s.v (a : Int) < 0 ∨ l.length ≤ s.v (a : Int)) (hle : s.evs.length ≤ 1000000) :
    Calls Tryz.prog 76 #[.pointer (some ⟨G.r, 0, none⟩), .agg #[.int .u8 op, .int .i64 (v : Int), .int .i64 (a : Int), .int .i64 (b : Int), .int .i64 n, .int .u8 bin, av, .int .i64 (f : Int), .int .i64 (arr : Int), .int .i64 (jt : Int)], .slice (some ⟨G.t.b, 0, none⟩) s.top.vars.length s.top.vars.length] w fun e w' => e = .returned (.tuple #[]) ∧ ∃ ρ', Runs w' ρ' G.r G.n0 G.gp (s.see 4 1) ∧ Kp ρ ρ' w w' := by
  have PR := Lib.hid (pre_ins h #[.int .u8 op, .int .i64 (v : Int), .int .i64 (a : Int), .int .i64 (b : Int), .int .i64 n, .int .u8 bin, av, .int .i64 (f : Int), .int .i64 (arr : Int), .int .i64 (jt : Int)])
  have Ha := Lib.hid (show (a : Int) < (s.top.vars.length : Int) by omega)
  obtain ⟨xa, hxa⟩ : ∃ x, x = s.v (a : Int) := ⟨_, rfl⟩
  have Va := Lib.hid (PR.out.r.vcell (a := a) ha)
  rw [← hxa] at Va hi
  clear hxa
  go_enter Tryz.func76, Tryz.ntmps76
  go_upto_region 1 with fail
  obtain ⟨W0, hW0⟩ : ∃ W0, W0 = w.alloc (.cells #[.int .u8 op, .int .i64 (v : Int), .int .i64 (a : Int), .int .i64 (b : Int), .int .i64 n, .int .u8 bin, av, .int .i64 (f : Int), .int .i64 (arr : Int), .int .i64 (jt : Int)] 71) := ⟨_, rfl⟩
  obtain ⟨bx, hbx⟩ : ∃ b, b = w.heap.size := ⟨_, rfl⟩
  rw [← hW0, ← hbx] at PR ⊢
  rw [← hW0] at Va
  clear hW0 hbx
  refine wp_region_float [some (none, .pointer (some ⟨G.r, 0, none⟩)), some (none, .pointer (some ⟨bx, 8, none⟩)), some (none, .int .i64 (arr : Int)), some (none, .slice (some ⟨G.t.b, 0, none⟩) s.top.vars.length s.top.vars.length), some (none, .pointer (some ⟨bx, 2, none⟩)), some (none, .int .i64 (a : Int)), some (none, .pointer (some ⟨G.t.b, a, none⟩)), some (none, .int .i64 xa), none, none] (fun W => Below W0.heap.size W0 W) 2 mixedT (fun _ a a2 _ hd h => by cases a; cases a2; cases hd; exact h) (by kernel_rfl) (fun _ _ h => h) ?_
  intro FF AA Wd hA hF hWh hWd
  have hL : HasL FF [(0, .pointer (some ⟨G.r, 0, none⟩)), (2, .slice (some ⟨G.t.b, 0, none⟩) s.top.vars.length s.top.vars.length), (4, .pointer (some ⟨bx, 0, none⟩)), (7, .pointer (some ⟨G.r, 0, none⟩)), (8, .pointer (some ⟨bx, 8, none⟩)), (9, .int .i64 (arr : Int)), (10, .slice (some ⟨G.t.b, 0, none⟩) s.top.vars.length s.top.vars.length), (11, .pointer (some ⟨bx, 2, none⟩)), (12, .int .i64 (a : Int)), (13, .pointer (some ⟨G.t.b, a, none⟩)), (14, .int .i64 xa)] := by unfold HasL; rw [hF, hA]; kernel_rfl
  have HF := Lib.hid hF; clear hF; have HA := Lib.hid hA; clear hA
  refine ⟨?_, ?_⟩
  · intro Z hZ
    repeat clear ‹∀ (a : Act) (w : World), Code.wp Tryz.prog _ _ a w → _›
    have gff := gd_ff
    have gtt := gd_tt
    exact
    ResF.cons (FlRes.val (by have a0 := hL.at 0 rfl; go_simp)) (
    ResF.cons (FlRes.val (by have a4 := hL.at 2 rfl; go_simp)) (
    ResF.cons (FlRes.val (by have a8 := hL.at 4 rfl; have kk := get_b hZ (PR.out.box.cell 8); go_simp)) (
    ResF.cons (FlRes.val (by have a2 := hL.at 1 rfl; go_simp)) (
    ResF.cons (FlRes.val (by have a4 := hL.at 2 rfl; go_simp)) (
    ResF.cons (FlRes.val (by have a11 := hL.at 7 rfl; have kk := get_b hZ (PR.out.box.cell 2); go_simp)) (
    ResF.cons (FlRes.val (by have a10 := hL.at 6 rfl; have a12 := hL.at 8 rfl; have hi0 := Ha.out; go_simp)) (
    ResF.cons (FlRes.val (by have a13 := hL.at 9 rfl; have kk := get_b hZ Va.out; go_simp)) (
    ResF.pass (
    ResF.pass (
    ResF.nil))))))))))
  clear hL
  obtain ⟨gf, hFF⟩ : ∃ gf : Nat → Value, FF = putL [(7, .pointer (some ⟨G.r, 0, none⟩)), (8, gf 8), (9, .int .i64 (arr : Int)), (10, gf 10), (11, gf 11), (12, gf 12), (13, gf 13), (14, .int .i64 xa)] AA := ⟨fun k => FF.tmps.getD k undef, by rw [HF.out, HA.out]; kernel_rfl⟩
  clear HF
  rw [HA.out] at hFF; clear HA
  simp only [putL, Act.put, List.setIfInBounds_toArray, List.set_cons_zero, List.set_cons_succ] at hFF
  subst hFF
  have P2 := Lib.hid (PR.out.r.below hWd)
  have HK2 := Lib.hid (PR.out.kp.trans (Kp.of_below hWd))
  refine wpAnyS_one 8 rfl (by kernel_rfl) (fun KK hK => ?_)
  have HNO := Lib.hid (cell_no P2.out hb hl xa hi hle)
  clear hi hb hl hle
  go_simp
  refine HNO.out.mono ?_
  rintro e w1 ⟨rfl, ρ1, hr1, hk1⟩
  go_simp
  have RF := Lib.hid hr1; have KF := Lib.hid (HK2.out.trans hk1)
  refine hK.out _ _ (Or.inr (by kernel_rfl)) ?_
  clear hK
  refine wpAnyS_one 9 rfl (by kernel_rfl) (fun KK hK => ?_)
  go_simp
  refine hK.out _ _ (Or.inr (by kernel_rfl)) ?_
  clear hK
  refine wpAnyS_end (by kernel_rfl) ?_
  clear hr1 hk1
  go_wp2_with fail
  go_end0
  exact ⟨rfl, ρ1, RF.out, KF.out⟩

set_option maxRecDepth 100000 in
set_option maxHeartbeats 8000000 in
theorem bound_yes_any {w : World} {ρ : Nat → Option Role} {G : RG} {s : MS} (h : RunR w ρ G s) (op bin v a b f arr jt : Nat) (n : Int) (av : Value) (ha : a < s.top.vars.length) {bb i : Nat} {l : List Int} (hb : G.ars[arr]? = some bb) (hl : s.arr[arr]? = some l) (hi : i < l.length) (hxa : s.v (a : Int) = (i : Int)) :
    Calls Tryz.prog 77 #[.pointer (some ⟨G.r, 0, none⟩), .agg #[.int .u8 op, .int .i64 (v : Int), .int .i64 (a : Int), .int .i64 (b : Int), .int .i64 n, .int .u8 bin, av, .int .i64 (f : Int), .int .i64 (arr : Int), .int .i64 (jt : Int)], .slice (some ⟨G.t.b, 0, none⟩) s.top.vars.length s.top.vars.length] w fun e w' => e = .returned (.tuple #[]) ∧ ∃ ρ', Runs w' ρ' G.r G.n0 G.gp (s) ∧ Kp ρ ρ' w w' := by
  have PR := Lib.hid (pre_ins h #[.int .u8 op, .int .i64 (v : Int), .int .i64 (a : Int), .int .i64 (b : Int), .int .i64 n, .int .u8 bin, av, .int .i64 (f : Int), .int .i64 (arr : Int), .int .i64 (jt : Int)])
  have Ha := Lib.hid (show (a : Int) < (s.top.vars.length : Int) by omega)
  have Va := Lib.hid (PR.out.r.vcell (a := a) ha)
  rw [hxa] at Va
  clear hxa
  go_enter Tryz.func77, Tryz.ntmps77
  go_upto_region 1 with fail
  obtain ⟨W0, hW0⟩ : ∃ W0, W0 = w.alloc (.cells #[.int .u8 op, .int .i64 (v : Int), .int .i64 (a : Int), .int .i64 (b : Int), .int .i64 n, .int .u8 bin, av, .int .i64 (f : Int), .int .i64 (arr : Int), .int .i64 (jt : Int)] 71) := ⟨_, rfl⟩
  obtain ⟨bx, hbx⟩ : ∃ b, b = w.heap.size := ⟨_, rfl⟩
  rw [← hW0, ← hbx] at PR ⊢
  rw [← hW0] at Va
  clear hW0 hbx
  refine wp_region_float [some (none, .pointer (some ⟨G.r, 0, none⟩)), some (none, .pointer (some ⟨bx, 8, none⟩)), some (none, .int .i64 (arr : Int)), some (none, .slice (some ⟨G.t.b, 0, none⟩) s.top.vars.length s.top.vars.length), some (none, .pointer (some ⟨bx, 2, none⟩)), some (none, .int .i64 (a : Int)), some (none, .pointer (some ⟨G.t.b, a, none⟩)), some (none, .int .i64 (i : Int)), none] (fun W => Below W0.heap.size W0 W) 1 mixedT (fun _ a a2 _ hd h => by cases a; cases a2; cases hd; exact h) (by kernel_rfl) (fun _ _ h => h) ?_
  intro FF AA Wd hA hF hWh hWd
  have hL : HasL FF [(0, .pointer (some ⟨G.r, 0, none⟩)), (2, .slice (some ⟨G.t.b, 0, none⟩) s.top.vars.length s.top.vars.length), (4, .pointer (some ⟨bx, 0, none⟩)), (6, .pointer (some ⟨G.r, 0, none⟩)), (7, .pointer (some ⟨bx, 8, none⟩)), (8, .int .i64 (arr : Int)), (9, .slice (some ⟨G.t.b, 0, none⟩) s.top.vars.length s.top.vars.length), (10, .pointer (some ⟨bx, 2, none⟩)), (11, .int .i64 (a : Int)), (12, .pointer (some ⟨G.t.b, a, none⟩)), (13, .int .i64 (i : Int))] := by unfold HasL; rw [hF, hA]; kernel_rfl
  have HF := Lib.hid hF; clear hF; have HA := Lib.hid hA; clear hA
  refine ⟨?_, ?_⟩
  · intro Z hZ
    repeat clear ‹∀ (a : Act) (w : World), Code.wp Tryz.prog _ _ a w → _›
    have gff := gd_ff
    have gtt := gd_tt
    exact
    ResF.cons (FlRes.val (by have a0 := hL.at 0 rfl; go_simp)) (
    ResF.cons (FlRes.val (by have a4 := hL.at 2 rfl; go_simp)) (
    ResF.cons (FlRes.val (by have a7 := hL.at 4 rfl; have kk := get_b hZ (PR.out.box.cell 8); go_simp)) (
    ResF.cons (FlRes.val (by have a2 := hL.at 1 rfl; go_simp)) (
    ResF.cons (FlRes.val (by have a4 := hL.at 2 rfl; go_simp)) (
    ResF.cons (FlRes.val (by have a10 := hL.at 7 rfl; have kk := get_b hZ (PR.out.box.cell 2); go_simp)) (
    ResF.cons (FlRes.val (by have a9 := hL.at 6 rfl; have a11 := hL.at 8 rfl; have hi0 := Ha.out; go_simp)) (
    ResF.cons (FlRes.val (by have a12 := hL.at 9 rfl; have kk := get_b hZ Va.out; go_simp)) (
    ResF.pass (
    ResF.nil)))))))))
  clear hL
  obtain ⟨gf, hFF⟩ : ∃ gf : Nat → Value, FF = putL [(6, .pointer (some ⟨G.r, 0, none⟩)), (7, gf 7), (8, .int .i64 (arr : Int)), (9, gf 9), (10, gf 10), (11, gf 11), (12, gf 12), (13, .int .i64 (i : Int))] AA := ⟨fun k => FF.tmps.getD k undef, by rw [HF.out, HA.out]; kernel_rfl⟩
  clear HF
  rw [HA.out] at hFF; clear HA
  simp only [putL, Act.put, List.setIfInBounds_toArray, List.set_cons_zero, List.set_cons_succ] at hFF
  subst hFF
  have P2 := Lib.hid (PR.out.r.below hWd)
  have HK2 := Lib.hid (PR.out.kp.trans (Kp.of_below hWd))
  refine wpAnyS_one 8 rfl (by kernel_rfl) (fun KK hK => ?_)
  go_simp
  refine (cell_yes P2.out hb hl i hi).mono ?_
  rintro e w1 ⟨rfl, hb1⟩
  go_simp
  have P3 := Lib.hid (P2.out.below hb1)
  have HK3 := Lib.hid (HK2.out.trans (Kp.of_below hb1))
  have hbw := hWd.trans (hb1.mono hWd.size)
  have BX := Lib.hid (PR.out.box.below hbw)
  refine hK.out _ _ (Or.inl hbw) ?_
  clear hK
  refine wpAnyS_end (by kernel_rfl) ?_
  go_end0
  exact ⟨rfl, ρ, P3.out.runs, HK3.out⟩

set_option maxRecDepth 100000 in
set_option maxHeartbeats 8000000 in
theorem bound_no_any {w : World} {ρ : Nat → Option Role} {G : RG} {s : MS} (h : RunR w ρ G s) (op bin v a b f arr jt : Nat) (n : Int) (av : Value) (ha : a < s.top.vars.length) {bb : Nat} {l : List Int} (hb : G.ars[arr]? = some bb) (hl : s.arr[arr]? = some l) (hi : s.v (a : Int) < 0 ∨ l.length ≤ s.v (a : Int)) (hle : s.evs.length ≤ 1000000) :
    Calls Tryz.prog 77 #[.pointer (some ⟨G.r, 0, none⟩), .agg #[.int .u8 op, .int .i64 (v : Int), .int .i64 (a : Int), .int .i64 (b : Int), .int .i64 n, .int .u8 bin, av, .int .i64 (f : Int), .int .i64 (arr : Int), .int .i64 (jt : Int)], .slice (some ⟨G.t.b, 0, none⟩) s.top.vars.length s.top.vars.length] w fun e w' => e = .returned (.tuple #[]) ∧ ∃ ρ', Runs w' ρ' G.r G.n0 G.gp (s.see 4 1) ∧ Kp ρ ρ' w w' := by
  have PR := Lib.hid (pre_ins h #[.int .u8 op, .int .i64 (v : Int), .int .i64 (a : Int), .int .i64 (b : Int), .int .i64 n, .int .u8 bin, av, .int .i64 (f : Int), .int .i64 (arr : Int), .int .i64 (jt : Int)])
  have Ha := Lib.hid (show (a : Int) < (s.top.vars.length : Int) by omega)
  obtain ⟨xa, hxa⟩ : ∃ x, x = s.v (a : Int) := ⟨_, rfl⟩
  have Va := Lib.hid (PR.out.r.vcell (a := a) ha)
  rw [← hxa] at Va hi
  clear hxa
  go_enter Tryz.func77, Tryz.ntmps77
  go_upto_region 1 with fail
  obtain ⟨W0, hW0⟩ : ∃ W0, W0 = w.alloc (.cells #[.int .u8 op, .int .i64 (v : Int), .int .i64 (a : Int), .int .i64 (b : Int), .int .i64 n, .int .u8 bin, av, .int .i64 (f : Int), .int .i64 (arr : Int), .int .i64 (jt : Int)] 71) := ⟨_, rfl⟩
  obtain ⟨bx, hbx⟩ : ∃ b, b = w.heap.size := ⟨_, rfl⟩
  rw [← hW0, ← hbx] at PR ⊢
  rw [← hW0] at Va
  clear hW0 hbx
  refine wp_region_float [some (none, .pointer (some ⟨G.r, 0, none⟩)), some (none, .pointer (some ⟨bx, 8, none⟩)), some (none, .int .i64 (arr : Int)), some (none, .slice (some ⟨G.t.b, 0, none⟩) s.top.vars.length s.top.vars.length), some (none, .pointer (some ⟨bx, 2, none⟩)), some (none, .int .i64 (a : Int)), some (none, .pointer (some ⟨G.t.b, a, none⟩)), some (none, .int .i64 xa), none] (fun W => Below W0.heap.size W0 W) 1 mixedT (fun _ a a2 _ hd h => by cases a; cases a2; cases hd; exact h) (by kernel_rfl) (fun _ _ h => h) ?_
  intro FF AA Wd hA hF hWh hWd
  have hL : HasL FF [(0, .pointer (some ⟨G.r, 0, none⟩)), (2, .slice (some ⟨G.t.b, 0, none⟩) s.top.vars.length s.top.vars.length), (4, .pointer (some ⟨bx, 0, none⟩)), (6, .pointer (some ⟨G.r, 0, none⟩)), (7, .pointer (some ⟨bx, 8, none⟩)), (8, .int .i64 (arr : Int)), (9, .slice (some ⟨G.t.b, 0, none⟩) s.top.vars.length s.top.vars.length), (10, .pointer (some ⟨bx, 2, none⟩)), (11, .int .i64 (a : Int)), (12, .pointer (some ⟨G.t.b, a, none⟩)), (13, .int .i64 xa)] := by unfold HasL; rw [hF, hA]; kernel_rfl
  have HF := Lib.hid hF; clear hF; have HA := Lib.hid hA; clear hA
  refine ⟨?_, ?_⟩
  · intro Z hZ
    repeat clear ‹∀ (a : Act) (w : World), Code.wp Tryz.prog _ _ a w → _›
    have gff := gd_ff
    have gtt := gd_tt
    exact
    ResF.cons (FlRes.val (by have a0 := hL.at 0 rfl; go_simp)) (
    ResF.cons (FlRes.val (by have a4 := hL.at 2 rfl; go_simp)) (
    ResF.cons (FlRes.val (by have a7 := hL.at 4 rfl; have kk := get_b hZ (PR.out.box.cell 8); go_simp)) (
    ResF.cons (FlRes.val (by have a2 := hL.at 1 rfl; go_simp)) (
    ResF.cons (FlRes.val (by have a4 := hL.at 2 rfl; go_simp)) (
    ResF.cons (FlRes.val (by have a10 := hL.at 7 rfl; have kk := get_b hZ (PR.out.box.cell 2); go_simp)) (
    ResF.cons (FlRes.val (by have a9 := hL.at 6 rfl; have a11 := hL.at 8 rfl; have hi0 := Ha.out; go_simp)) (
    ResF.cons (FlRes.val (by have a12 := hL.at 9 rfl; have kk := get_b hZ Va.out; go_simp)) (
    ResF.pass (
    ResF.nil)))))))))
  clear hL
  obtain ⟨gf, hFF⟩ : ∃ gf : Nat → Value, FF = putL [(6, .pointer (some ⟨G.r, 0, none⟩)), (7, gf 7), (8, .int .i64 (arr : Int)), (9, gf 9), (10, gf 10), (11, gf 11), (12, gf 12), (13, .int .i64 xa)] AA := ⟨fun k => FF.tmps.getD k undef, by rw [HF.out, HA.out]; kernel_rfl⟩
  clear HF
  rw [HA.out] at hFF; clear HA
  simp only [putL, Act.put, List.setIfInBounds_toArray, List.set_cons_zero, List.set_cons_succ] at hFF
  subst hFF
  have P2 := Lib.hid (PR.out.r.below hWd)
  have HK2 := Lib.hid (PR.out.kp.trans (Kp.of_below hWd))
  refine wpAnyS_one 8 rfl (by kernel_rfl) (fun KK hK => ?_)
  have HNO := Lib.hid (cell_no P2.out hb hl xa hi hle)
  clear hi hb hl hle
  go_simp
  refine HNO.out.mono ?_
  rintro e w1 ⟨rfl, ρ1, hr1, hk1⟩
  go_simp
  have RF := Lib.hid hr1; have KF := Lib.hid (HK2.out.trans hk1)
  refine hK.out _ _ (Or.inr (by kernel_rfl)) ?_
  clear hK
  refine wpAnyS_end (by kernel_rfl) ?_
  clear hr1 hk1
  go_end0
  exact ⟨rfl, ρ1, RF.out, KF.out⟩
end Go.Proofs.YtgdibfnpkcdiiaaGreatDoor

/- What each instruction does, in memory: the others. By an AI agent. -/
namespace Go.Proofs.YtgdibfnpkcdiiaaGreatDoor
open Go.RowKit

theorem frame_cell {w : World} {ρ : Nat → Option Role} {G : RG} {s : MS} (h : RunR w ρ G s) {g m cap : Nat} (hv : G.frv = .slice (some ⟨g, 0, none⟩) m cap) (k : Nat) (hk : k < 8) : w.cell? ⟨g, G.bs.length * 8 + k, none⟩ = (frC G.t)[k]? := by
  have ho := h.frow
  have hm : m = G.fs.length := by
    rcases ho.2 with ⟨e, _⟩ | ⟨_, _, _, e, _⟩
    · rw [hv] at e; cases e
    · rw [hv] at e; injection e
  rw [hv, ← hm] at ho
  have hl : G.fs.length = G.bs.length + 1 := by simp [RG.fs]
  rw [ho.cellAt (G.bs.length * 8 + k) (by omega)]
  exact rows_atM frC 8 (fun _ => rfl) G.fs G.bs.length k G.t G.fs_at hk
theorem frame_free {w : World} {ρ : Nat → Option Role} {G : RG} {s : MS} (h : RunR w ρ G s) {g m cap : Nat} (hv : G.frv = .slice (some ⟨g, 0, none⟩) m cap) (j : Nat) : w.frozen? ⟨g, j, none⟩ = false := by
  have ho := h.frow
  have hm : m = G.fs.length := by
    rcases ho.2 with ⟨e, _⟩ | ⟨_, _, _, e, _⟩
    · rw [hv] at e; cases e
    · rw [hv] at e; injection e
  rw [hv, ← hm] at ho
  exact ho.frozenAt j
theorem RunR.frvc {w : World} {ρ : Nat → Option Role} {G : RG} {s : MS} (h : RunR w ρ G s) {g m cap : Nat} (hv : G.frv = .slice (some ⟨g, 0, none⟩) m cap) : w.cell? ⟨G.r, 5, none⟩ = some (.slice (some ⟨g, 0, none⟩) m cap) := (h.run.cell 5).trans (by simp [RG.cells, hv])

set_option maxRecDepth 100000 in
set_option maxHeartbeats 8000000 in
theorem print_any {w : World} {ρ : Nat → Option Role} {G : RG} {s : MS} (h : RunR w ρ G s) (op bin v a b f arr jt : Nat) (n : Int) (av : Value) (ha : a < s.top.vars.length) (hle : s.evs.length ≤ 1000000) :
    Calls Tryz.prog 80 #[.pointer (some ⟨G.r, 0, none⟩), .agg #[.int .u8 op, .int .i64 (v : Int), .int .i64 (a : Int), .int .i64 (b : Int), .int .i64 n, .int .u8 bin, av, .int .i64 (f : Int), .int .i64 (arr : Int), .int .i64 (jt : Int)], .slice (some ⟨G.t.b, 0, none⟩) s.top.vars.length s.top.vars.length] w fun e w' => e = .returned (.tuple #[]) ∧ ∃ ρ', Runs w' ρ' G.r G.n0 G.gp (s.see 2 (s.v a)) ∧ Kp ρ ρ' w w' := by
  have PR := Lib.hid (pre_ins h #[.int .u8 op, .int .i64 (v : Int), .int .i64 (a : Int), .int .i64 (b : Int), .int .i64 n, .int .u8 bin, av, .int .i64 (f : Int), .int .i64 (arr : Int), .int .i64 (jt : Int)])
  have Ha := Lib.hid (show (a : Int) < (s.top.vars.length : Int) by omega)
  obtain ⟨xa, hxa⟩ : ∃ x, x = s.v (a : Int) := ⟨_, rfl⟩
  have Va := Lib.hid (PR.out.r.vcell (a := a) ha)
  rw [← hxa] at Va ⊢
  clear hxa
  go_enter Tryz.func80, Tryz.ntmps80
  go_upto_region 1 with fail
  obtain ⟨W0, hW0⟩ : ∃ W0, W0 = w.alloc (.cells #[.int .u8 op, .int .i64 (v : Int), .int .i64 (a : Int), .int .i64 (b : Int), .int .i64 n, .int .u8 bin, av, .int .i64 (f : Int), .int .i64 (arr : Int), .int .i64 (jt : Int)] 71) := ⟨_, rfl⟩
  obtain ⟨bx, hbx⟩ : ∃ b, b = w.heap.size := ⟨_, rfl⟩
  rw [← hW0, ← hbx] at PR ⊢
  rw [← hW0] at Va
  clear hW0 hbx
  have k2 := PR.out.box.cell 2
  have lb := PR.out.box.lt
  have va := Va.out
  have ha0 := Ha.out
  have lv := cell_lt' va
  have SEE := Lib.hid (see_any PR.out.r 2 xa hle)
  have KP := Lib.hid PR.out.kp
  clear PR Va hle
  go_wp2_with fail
  refine SEE.out.mono ?_
  rintro e w1 ⟨rfl, ρ1, hr1, hk1⟩
  have RF := Lib.hid hr1; have KF := Lib.hid (KP.out.trans hk1)
  clear hr1 hk1 SEE KP
  go_wp2_with fail
  go_end0
  exact ⟨rfl, ρ1, RF.out, KF.out⟩

set_option maxRecDepth 100000 in
set_option maxHeartbeats 8000000 in
theorem exit_any {w : World} {ρ : Nat → Option Role} {G : RG} {s : MS} (h : RunR w ρ G s) (op bin v a b f arr jt : Nat) (n : Int) (av : Value) (ha : a < s.top.vars.length) (hle : s.evs.length ≤ 1000000) :
    Calls Tryz.prog 81 #[.pointer (some ⟨G.r, 0, none⟩), .agg #[.int .u8 op, .int .i64 (v : Int), .int .i64 (a : Int), .int .i64 (b : Int), .int .i64 n, .int .u8 bin, av, .int .i64 (f : Int), .int .i64 (arr : Int), .int .i64 (jt : Int)], .slice (some ⟨G.t.b, 0, none⟩) s.top.vars.length s.top.vars.length] w fun e w' => e = .returned (.tuple #[]) ∧ ∃ ρ', Runs w' ρ' G.r G.n0 G.gp (s.see 3 (s.v a)) ∧ Kp ρ ρ' w w' := by
  have PR := Lib.hid (pre_ins h #[.int .u8 op, .int .i64 (v : Int), .int .i64 (a : Int), .int .i64 (b : Int), .int .i64 n, .int .u8 bin, av, .int .i64 (f : Int), .int .i64 (arr : Int), .int .i64 (jt : Int)])
  have Ha := Lib.hid (show (a : Int) < (s.top.vars.length : Int) by omega)
  obtain ⟨xa, hxa⟩ : ∃ x, x = s.v (a : Int) := ⟨_, rfl⟩
  have Va := Lib.hid (PR.out.r.vcell (a := a) ha)
  rw [← hxa] at Va ⊢
  clear hxa
  go_enter Tryz.func81, Tryz.ntmps81
  go_upto_region 1 with fail
  obtain ⟨W0, hW0⟩ : ∃ W0, W0 = w.alloc (.cells #[.int .u8 op, .int .i64 (v : Int), .int .i64 (a : Int), .int .i64 (b : Int), .int .i64 n, .int .u8 bin, av, .int .i64 (f : Int), .int .i64 (arr : Int), .int .i64 (jt : Int)] 71) := ⟨_, rfl⟩
  obtain ⟨bx, hbx⟩ : ∃ b, b = w.heap.size := ⟨_, rfl⟩
  rw [← hW0, ← hbx] at PR ⊢
  rw [← hW0] at Va
  clear hW0 hbx
  have k2 := PR.out.box.cell 2
  have lb := PR.out.box.lt
  have va := Va.out
  have ha0 := Ha.out
  have lv := cell_lt' va
  have SEE := Lib.hid (see_any PR.out.r 3 xa hle)
  have KP := Lib.hid PR.out.kp
  clear PR Va hle
  go_wp2_with fail
  refine SEE.out.mono ?_
  rintro e w1 ⟨rfl, ρ1, hr1, hk1⟩
  have RF := Lib.hid hr1; have KF := Lib.hid (KP.out.trans hk1)
  clear hr1 hk1 SEE KP
  go_wp2_with fail
  go_end0
  exact ⟨rfl, ρ1, RF.out, KF.out⟩

set_option maxRecDepth 100000 in
set_option maxHeartbeats 8000000 in
theorem zero_yes_any {w : World} {ρ : Nat → Option Role} {G : RG} {s : MS} (h : RunR w ρ G s) (op bin v a b f arr jt : Nat) (n : Int) (av : Value) (ha : a < s.top.vars.length) (hxa0 : s.v (a : Int) = 0) (hle : s.evs.length ≤ 1000000) :
    Calls Tryz.prog 78 #[.pointer (some ⟨G.r, 0, none⟩), .agg #[.int .u8 op, .int .i64 (v : Int), .int .i64 (a : Int), .int .i64 (b : Int), .int .i64 n, .int .u8 bin, av, .int .i64 (f : Int), .int .i64 (arr : Int), .int .i64 (jt : Int)], .slice (some ⟨G.t.b, 0, none⟩) s.top.vars.length s.top.vars.length] w fun e w' => e = .returned (.tuple #[]) ∧ ∃ ρ', Runs w' ρ' G.r G.n0 G.gp (s.see 4 2) ∧ Kp ρ ρ' w w' := by
  have PR := Lib.hid (pre_ins h #[.int .u8 op, .int .i64 (v : Int), .int .i64 (a : Int), .int .i64 (b : Int), .int .i64 n, .int .u8 bin, av, .int .i64 (f : Int), .int .i64 (arr : Int), .int .i64 (jt : Int)])
  have Ha := Lib.hid (show (a : Int) < (s.top.vars.length : Int) by omega)
  obtain ⟨xa, hxa⟩ : ∃ x, x = s.v (a : Int) := ⟨_, rfl⟩
  have Va := Lib.hid (PR.out.r.vcell (a := a) ha)
  rw [← hxa] at Va hxa0
  clear hxa
  go_enter Tryz.func78, Tryz.ntmps78
  go_upto_region 1 with fail
  obtain ⟨W0, hW0⟩ : ∃ W0, W0 = w.alloc (.cells #[.int .u8 op, .int .i64 (v : Int), .int .i64 (a : Int), .int .i64 (b : Int), .int .i64 n, .int .u8 bin, av, .int .i64 (f : Int), .int .i64 (arr : Int), .int .i64 (jt : Int)] 71) := ⟨_, rfl⟩
  obtain ⟨bx, hbx⟩ : ∃ b, b = w.heap.size := ⟨_, rfl⟩
  rw [← hW0, ← hbx] at PR ⊢
  rw [← hW0] at Va
  clear hW0 hbx
  have k2 := PR.out.box.cell 2
  have lb := PR.out.box.lt
  have va := Va.out
  have ha0 := Ha.out
  have lv := cell_lt' va
  have q0 : (xa == 0) = true := by simpa using hxa0
  have SEE := Lib.hid (see_any PR.out.r 4 2 hle)
  have KP := Lib.hid PR.out.kp
  have RR := Lib.hid PR.out.r.runs
  clear PR Va hle hxa0
  go_wp2_with fail
  refine SEE.out.mono ?_
  rintro e w1 ⟨rfl, ρ1, hr1, hk1⟩
  have RF := Lib.hid hr1; have KF := Lib.hid (KP.out.trans hk1)
  clear hr1 hk1 SEE KP RR
  go_wp2_with fail
  go_end0
  exact ⟨rfl, ρ1, RF.out, KF.out⟩

set_option maxRecDepth 100000 in
set_option maxHeartbeats 8000000 in
theorem zero_no_any {w : World} {ρ : Nat → Option Role} {G : RG} {s : MS} (h : RunR w ρ G s) (op bin v a b f arr jt : Nat) (n : Int) (av : Value) (ha : a < s.top.vars.length) (hxa0 : s.v (a : Int) ≠ 0) (hle : s.evs.length ≤ 1000000) :
    Calls Tryz.prog 78 #[.pointer (some ⟨G.r, 0, none⟩), .agg #[.int .u8 op, .int .i64 (v : Int), .int .i64 (a : Int), .int .i64 (b : Int), .int .i64 n, .int .u8 bin, av, .int .i64 (f : Int), .int .i64 (arr : Int), .int .i64 (jt : Int)], .slice (some ⟨G.t.b, 0, none⟩) s.top.vars.length s.top.vars.length] w fun e w' => e = .returned (.tuple #[]) ∧ ∃ ρ', Runs w' ρ' G.r G.n0 G.gp (s) ∧ Kp ρ ρ' w w' := by
  have PR := Lib.hid (pre_ins h #[.int .u8 op, .int .i64 (v : Int), .int .i64 (a : Int), .int .i64 (b : Int), .int .i64 n, .int .u8 bin, av, .int .i64 (f : Int), .int .i64 (arr : Int), .int .i64 (jt : Int)])
  have Ha := Lib.hid (show (a : Int) < (s.top.vars.length : Int) by omega)
  obtain ⟨xa, hxa⟩ : ∃ x, x = s.v (a : Int) := ⟨_, rfl⟩
  have Va := Lib.hid (PR.out.r.vcell (a := a) ha)
  rw [← hxa] at Va hxa0
  clear hxa
  go_enter Tryz.func78, Tryz.ntmps78
  go_upto_region 1 with fail
  obtain ⟨W0, hW0⟩ : ∃ W0, W0 = w.alloc (.cells #[.int .u8 op, .int .i64 (v : Int), .int .i64 (a : Int), .int .i64 (b : Int), .int .i64 n, .int .u8 bin, av, .int .i64 (f : Int), .int .i64 (arr : Int), .int .i64 (jt : Int)] 71) := ⟨_, rfl⟩
  obtain ⟨bx, hbx⟩ : ∃ b, b = w.heap.size := ⟨_, rfl⟩
  rw [← hW0, ← hbx] at PR ⊢
  rw [← hW0] at Va
  clear hW0 hbx
  have k2 := PR.out.box.cell 2
  have lb := PR.out.box.lt
  have va := Va.out
  have ha0 := Ha.out
  have lv := cell_lt' va
  have q0 : (xa == 0) = false := by simpa using hxa0
  have SEE := Lib.hid (see_any PR.out.r 4 2 hle)
  have KP := Lib.hid PR.out.kp
  have RR := Lib.hid PR.out.r.runs
  clear PR Va hle hxa0
  go_wp2_with fail
  go_end0
  exact ⟨rfl, ρ, RR.out, KP.out⟩

set_option maxRecDepth 100000 in
set_option maxHeartbeats 8000000 in
theorem jump_any {w : World} {ρ : Nat → Option Role} {G : RG} {s : MS} (h : RunR w ρ G s) (op bin v a b f arr jt : Nat) (n : Int) (av : Value) (hbl : G.bs.length ≤ 1000000) :
    Calls Tryz.prog 84 #[.pointer (some ⟨G.r, 0, none⟩), .agg #[.int .u8 op, .int .i64 (v : Int), .int .i64 (a : Int), .int .i64 (b : Int), .int .i64 n, .int .u8 bin, av, .int .i64 (f : Int), .int .i64 (arr : Int), .int .i64 (jt : Int)], .slice (some ⟨G.t.b, 0, none⟩) s.top.vars.length s.top.vars.length] w fun e w' => e = .returned (.tuple #[]) ∧ ∃ ρ', Runs w' ρ' G.r G.n0 G.gp (s.jump jt) ∧ Kp ρ ρ' w w' := by
  obtain ⟨fb, cap, hfv⟩ := h.frv_form
  have HFV := Lib.hid hfv; clear hfv
  have PR := Lib.hid (pre_ins h #[.int .u8 op, .int .i64 (v : Int), .int .i64 (a : Int), .int .i64 (b : Int), .int .i64 n, .int .u8 bin, av, .int .i64 (f : Int), .int .i64 (arr : Int), .int .i64 (jt : Int)])
  go_enter Tryz.func84, Tryz.ntmps84
  go_upto_region 1 with fail
  obtain ⟨W0, hW0⟩ : ∃ W0, W0 = w.alloc (.cells #[.int .u8 op, .int .i64 (v : Int), .int .i64 (a : Int), .int .i64 (b : Int), .int .i64 n, .int .u8 bin, av, .int .i64 (f : Int), .int .i64 (arr : Int), .int .i64 (jt : Int)] 71) := ⟨_, rfl⟩
  obtain ⟨bx, hbx⟩ : ∃ b, b = w.heap.size := ⟨_, rfl⟩
  rw [← hW0, ← hbx] at PR ⊢

  clear hW0 hbx
  refine wp_region_float [some (none, .pointer (some ⟨G.r, 0, none⟩)), some (none, .pointer (some ⟨G.r, 0, none⟩)), some (none, .pointer (some ⟨G.r, 5, none⟩)), none, some (none, .pointer (some ⟨bx, 9, none⟩)), some (none, .int .i64 (jt : Int)), none, none, none] (fun W => Below W0.heap.size W0 W) 4 mixedT (fun _ a a2 _ hd h => by cases a; cases a2; cases hd; exact h) (by kernel_rfl) (fun _ _ h => h) ?_
  intro FF AA Wd hA hF hWh hWd
  have hL : HasL FF [(0, .pointer (some ⟨G.r, 0, none⟩)), (4, .pointer (some ⟨bx, 0, none⟩)), (6, .pointer (some ⟨G.r, 0, none⟩)), (7, .pointer (some ⟨G.r, 0, none⟩)), (8, .pointer (some ⟨G.r, 5, none⟩)), (10, .pointer (some ⟨bx, 9, none⟩)), (11, .int .i64 (jt : Int))] := by unfold HasL; rw [hF, hA]; kernel_rfl
  have HF := Lib.hid hF; clear hF; have HA := Lib.hid hA; clear hA
  refine ⟨?_, ?_⟩
  · intro Z hZ
    repeat clear ‹∀ (a : Act) (w : World), Code.wp Tryz.prog _ _ a w → _›
    have gff := gd_ff
    have gtt := gd_tt
    exact
    ResF.cons (FlRes.val (by have a0 := hL.at 0 rfl; go_simp)) (
    ResF.cons (FlRes.val (by have a6 := hL.at 2 rfl; go_simp)) (
    ResF.cons (FlRes.val (by have a7 := hL.at 3 rfl; go_simp)) (
    ResF.pass (
    ResF.cons (FlRes.val (by have a4 := hL.at 1 rfl; go_simp)) (
    ResF.cons (FlRes.val (by have a10 := hL.at 5 rfl; have kk := get_b hZ (PR.out.box.cell 9); go_simp)) (
    ResF.pass (
    ResF.pass (
    ResF.pass (
    ResF.nil)))))))))
  clear hL
  obtain ⟨gf, hFF⟩ : ∃ gf : Nat → Value, FF = putL [(6, gf 6), (7, gf 7), (8, .pointer (some ⟨G.r, 5, none⟩)), (10, gf 10), (11, .int .i64 (jt : Int))] AA := ⟨fun k => FF.tmps.getD k undef, by rw [HF.out, HA.out]; kernel_rfl⟩
  clear HF
  rw [HA.out] at hFF; clear HA
  simp only [putL, Act.put, List.setIfInBounds_toArray, List.set_cons_zero, List.set_cons_succ] at hFF
  subst hFF
  refine wpAnyS_one 3 rfl (by kernel_rfl) (fun KK hK => ?_)
  have P2 := Lib.hid (PR.out.r.below hWd)
  have HK2 := Lib.hid (PR.out.kp.trans (Kp.of_below hWd))
  go_simp
  refine (top_any G.r fb G.bs.length (G.bs.length + 1) cap Wd (P2.out.frvc HFV.out) rfl hbl).mono ?_
  rintro e w1 ⟨rfl, hb1⟩
  go_simp
  have P3 := Lib.hid (P2.out.below hb1)
  have HK3 := Lib.hid (HK2.out.trans (Kp.of_below hb1))
  have hbw := hWd.trans (hb1.mono hWd.size)
  refine hK.out _ _ (Or.inl hbw) ?_
  clear hK
  refine wpAnyS_one 6 rfl (by kernel_rfl) (fun KK hK => ?_)
  go_simp
  refine hK.out _ _ (Or.inl hbw) ?_
  clear hK
  refine wpAnyS_one 7 rfl (by kernel_rfl) (fun KK hK => ?_)
  go_simp
  refine hK.out _ _ (Or.inl hbw) ?_
  clear hK
  have fc := frame_cell P3.out HFV.out 5 (by decide)
  have ff := frame_free P3.out HFV.out (G.bs.length * 8 + 5)
  have fl := cell_lt' fc
  refine wpAnyS_one 8 rfl (by kernel_rfl) (fun KK hK => ?_)
  go_simp
  refine hK.out _ _ (Or.inr (by kernel_rfl)) ?_
  clear hK
  refine wpAnyS_end (by kernel_rfl) ?_
  go_end0
  have RF := P3.out.setAt HFV.out jt
  exact ⟨rfl, ρ, RF.runs, HK3.out.trans (Kp.set (P3.out.frowr fb (by rw [HFV.out]; rfl)) _)⟩

set_option maxRecDepth 100000 in
set_option maxHeartbeats 8000000 in
theorem unless_yes_any {w : World} {ρ : Nat → Option Role} {G : RG} {s : MS} (h : RunR w ρ G s) (op bin v a b f arr jt : Nat) (n : Int) (av : Value) (ha : a < s.top.vars.length) (hxa0 : s.v (a : Int) = 0) (hbl : G.bs.length ≤ 1000000) :
    Calls Tryz.prog 85 #[.pointer (some ⟨G.r, 0, none⟩), .agg #[.int .u8 op, .int .i64 (v : Int), .int .i64 (a : Int), .int .i64 (b : Int), .int .i64 n, .int .u8 bin, av, .int .i64 (f : Int), .int .i64 (arr : Int), .int .i64 (jt : Int)], .slice (some ⟨G.t.b, 0, none⟩) s.top.vars.length s.top.vars.length] w fun e w' => e = .returned (.tuple #[]) ∧ ∃ ρ', Runs w' ρ' G.r G.n0 G.gp (s.jump jt) ∧ Kp ρ ρ' w w' := by
  have PR := Lib.hid (pre_ins h #[.int .u8 op, .int .i64 (v : Int), .int .i64 (a : Int), .int .i64 (b : Int), .int .i64 n, .int .u8 bin, av, .int .i64 (f : Int), .int .i64 (arr : Int), .int .i64 (jt : Int)])
  have Ha := Lib.hid (show (a : Int) < (s.top.vars.length : Int) by omega)
  obtain ⟨xa, hxa⟩ : ∃ x, x = s.v (a : Int) := ⟨_, rfl⟩
  have Va := Lib.hid (PR.out.r.vcell (a := a) ha)
  rw [← hxa] at Va hxa0
  clear hxa
  go_enter Tryz.func85, Tryz.ntmps85
  go_upto_region 1 with fail
  obtain ⟨W0, hW0⟩ : ∃ W0, W0 = w.alloc (.cells #[.int .u8 op, .int .i64 (v : Int), .int .i64 (a : Int), .int .i64 (b : Int), .int .i64 n, .int .u8 bin, av, .int .i64 (f : Int), .int .i64 (arr : Int), .int .i64 (jt : Int)] 71) := ⟨_, rfl⟩
  obtain ⟨bx, hbx⟩ : ∃ b, b = w.heap.size := ⟨_, rfl⟩
  rw [← hW0, ← hbx] at PR ⊢
  rw [← hW0] at Va
  clear hW0 hbx
  have k0 := PR.out.box.cell 0
  have k1 := PR.out.box.cell 1
  have k2 := PR.out.box.cell 2
  have k3 := PR.out.box.cell 3
  have k4 := PR.out.box.cell 4
  have k5 := PR.out.box.cell 5
  have k6 := PR.out.box.cell 6
  have k7 := PR.out.box.cell 7
  have k8 := PR.out.box.cell 8
  have k9 := PR.out.box.cell 9
  have lb := PR.out.box.lt
  have va := Va.out
  have ha0 := Ha.out
  have lv := cell_lt' va
  have q0 : (xa == 0) = true := by simpa using hxa0
  have JMP := Lib.hid (jump_any PR.out.r op bin v a b f arr jt n av hbl)
  have KP := Lib.hid PR.out.kp
  have RR := Lib.hid PR.out.r.runs
  clear PR Va hbl hxa0
  go_wp2_with fail
  refine JMP.out.mono ?_
  rintro e w1 ⟨rfl, ρ1, hr1, hk1⟩
  have RF := Lib.hid hr1; have KF := Lib.hid (KP.out.trans hk1)
  clear hr1 hk1 JMP KP RR
  go_wp2_with fail
  go_end0
  exact ⟨rfl, ρ1, RF.out, KF.out⟩

set_option maxRecDepth 100000 in
set_option maxHeartbeats 8000000 in
theorem unless_no_any {w : World} {ρ : Nat → Option Role} {G : RG} {s : MS} (h : RunR w ρ G s) (op bin v a b f arr jt : Nat) (n : Int) (av : Value) (ha : a < s.top.vars.length) (hxa0 : s.v (a : Int) ≠ 0) (hbl : G.bs.length ≤ 1000000) :
    Calls Tryz.prog 85 #[.pointer (some ⟨G.r, 0, none⟩), .agg #[.int .u8 op, .int .i64 (v : Int), .int .i64 (a : Int), .int .i64 (b : Int), .int .i64 n, .int .u8 bin, av, .int .i64 (f : Int), .int .i64 (arr : Int), .int .i64 (jt : Int)], .slice (some ⟨G.t.b, 0, none⟩) s.top.vars.length s.top.vars.length] w fun e w' => e = .returned (.tuple #[]) ∧ ∃ ρ', Runs w' ρ' G.r G.n0 G.gp (s) ∧ Kp ρ ρ' w w' := by
  have PR := Lib.hid (pre_ins h #[.int .u8 op, .int .i64 (v : Int), .int .i64 (a : Int), .int .i64 (b : Int), .int .i64 n, .int .u8 bin, av, .int .i64 (f : Int), .int .i64 (arr : Int), .int .i64 (jt : Int)])
  have Ha := Lib.hid (show (a : Int) < (s.top.vars.length : Int) by omega)
  obtain ⟨xa, hxa⟩ : ∃ x, x = s.v (a : Int) := ⟨_, rfl⟩
  have Va := Lib.hid (PR.out.r.vcell (a := a) ha)
  rw [← hxa] at Va hxa0
  clear hxa
  go_enter Tryz.func85, Tryz.ntmps85
  go_upto_region 1 with fail
  obtain ⟨W0, hW0⟩ : ∃ W0, W0 = w.alloc (.cells #[.int .u8 op, .int .i64 (v : Int), .int .i64 (a : Int), .int .i64 (b : Int), .int .i64 n, .int .u8 bin, av, .int .i64 (f : Int), .int .i64 (arr : Int), .int .i64 (jt : Int)] 71) := ⟨_, rfl⟩
  obtain ⟨bx, hbx⟩ : ∃ b, b = w.heap.size := ⟨_, rfl⟩
  rw [← hW0, ← hbx] at PR ⊢
  rw [← hW0] at Va
  clear hW0 hbx
  have k0 := PR.out.box.cell 0
  have k1 := PR.out.box.cell 1
  have k2 := PR.out.box.cell 2
  have k3 := PR.out.box.cell 3
  have k4 := PR.out.box.cell 4
  have k5 := PR.out.box.cell 5
  have k6 := PR.out.box.cell 6
  have k7 := PR.out.box.cell 7
  have k8 := PR.out.box.cell 8
  have k9 := PR.out.box.cell 9
  have lb := PR.out.box.lt
  have va := Va.out
  have ha0 := Ha.out
  have lv := cell_lt' va
  have q0 : (xa == 0) = false := by simpa using hxa0
  have JMP := Lib.hid (jump_any PR.out.r op bin v a b f arr jt n av hbl)
  have KP := Lib.hid PR.out.kp
  have RR := Lib.hid PR.out.r.runs
  clear PR Va hbl hxa0
  go_wp2_with fail
  go_end0
  exact ⟨rfl, ρ, RR.out, KP.out⟩
end Go.Proofs.YtgdibfnpkcdiiaaGreatDoor
