/- Joint text: HRSame, HLawS. By an AI agent. -/
import Derived.Test.YtgdibfnpkcdiiaaGreatDoorJD
import Derived.Test.YtgdibfnpkcdiiaaGreatDoorJA
/- Are two programs the same, as the document says (Same). By an AI agent. -/
namespace Go.Proofs.YtgdibfnpkcdiiaaGreatDoor
open Go.RowKit

theorem in_eq (x y : In) : decide (x = y) = (((x.op : Int) == (y.op : Int)) && (x.v == y.v) && (x.a == y.a) && (x.b == y.b) && (x.n == y.n) && ((x.bin : Int) == (y.bin : Int)) && (x.f == y.f) && (x.arr == y.arr) && (x.to == y.to) && decide (x.args = y.args)) := by
  obtain ⟨o, v, a, b, n, bi, ar, f, r, t⟩ := x
  obtain ⟨o', v', a', b', n', bi', ar', f', r', t'⟩ := y
  rw [Bool.eq_iff_iff]
  simp only [decide_eq_true_eq, In.mk.injEq, Bool.and_eq_true, beq_iff_eq]
  constructor
  · rintro ⟨h1, h2, h3, h4, h5, h6, h7, h8, h9, h10⟩
    exact ⟨⟨⟨⟨⟨⟨⟨⟨⟨by rw [h1], h2⟩, h3⟩, h4⟩, h5⟩, by rw [h6]⟩, h8⟩, h9⟩, h10⟩, h7⟩
  · rintro ⟨⟨⟨⟨⟨⟨⟨⟨⟨h1, h2⟩, h3⟩, h4⟩, h5⟩, h6⟩, h8⟩, h9⟩, h10⟩, h7⟩
    exact ⟨by omega, h2, h3, h4, h5, by omega, h7, h8, h9, h10⟩
set_option maxRecDepth 100000 in
set_option maxHeartbeats 8000000 in
theorem rsame1 (x y : InV) (w : World) (hx : IntsV w x.2 x.1.args) (hy : IntsV w y.2 y.1.args) (hxl : x.1.args.length ≤ 1000000) :
    Calls Tryz.prog 64 #[insV x, insV y] w fun e w' => e = .returned (.bool (decide (x.1 = y.1))) ∧ Below w.heap.size w w' := by
  obtain ⟨x, xv⟩ := x
  obtain ⟨y, yv⟩ := y
  dsimp only at hxl
  have hc : ∀ W, Below w.heap.size w W → Calls Tryz.prog 63 #[xv, yv] W fun e w' => e = .returned (.bool (decide (x.args = y.args))) ∧ Below W.heap.size W w' := fun W hW => eqints63 _ _ _ _ W (hx.below hW) (hy.below hW) hxl
  obtain ⟨X, cx, hxv, _, _⟩ := hx
  obtain ⟨Y, cy, hyv, _, _⟩ := hy
  dsimp only at hxv hyv
  have heq := in_eq x y
  unfold insV
  dsimp only
  rw [hxv, hyv]
  obtain ⟨ta, hta⟩ : ∃ b, b = decide (x.args = y.args) := ⟨_, rfl⟩
  rw [← hta] at hc heq
  generalize decide (x = y) = res at heq ⊢
  have HC := Lib.hid (fun W (hW : Below w.heap.size w W) => hc W hW); have HEQ := Lib.hid heq
  clear hc heq hta
  go_enter Tryz.func64, Tryz.ntmps64
  go_upto_region 1 with fail
  have bx := (Blk.new w 75 #[.int .u8 x.op, .int .i64 x.v, .int .i64 x.a, .int .i64 x.b, .int .i64 x.n, .int .u8 x.bin, .slice X x.args.length cx, .int .i64 x.f, .int .i64 x.arr, .int .i64 x.to]).alloc (.cells #[.int .u8 y.op, .int .i64 y.v, .int .i64 y.a, .int .i64 y.b, .int .i64 y.n, .int .u8 y.bin, .slice Y y.args.length cy, .int .i64 y.f, .int .i64 y.arr, .int .i64 y.to] 75)
  have by' := Blk.new (w.alloc (.cells #[.int .u8 x.op, .int .i64 x.v, .int .i64 x.a, .int .i64 x.b, .int .i64 x.n, .int .u8 x.bin, .slice X x.args.length cx, .int .i64 x.f, .int .i64 x.arr, .int .i64 x.to] 75)) 75 #[.int .u8 y.op, .int .i64 y.v, .int .i64 y.a, .int .i64 y.b, .int .i64 y.n, .int .u8 y.bin, .slice Y y.args.length cy, .int .i64 y.f, .int .i64 y.arr, .int .i64 y.to]
  have hb0 : Below w.heap.size w ((w.alloc (.cells #[.int .u8 x.op, .int .i64 x.v, .int .i64 x.a, .int .i64 x.b, .int .i64 x.n, .int .u8 x.bin, .slice X x.args.length cx, .int .i64 x.f, .int .i64 x.arr, .int .i64 x.to] 75)).alloc (.cells #[.int .u8 y.op, .int .i64 y.v, .int .i64 y.a, .int .i64 y.b, .int .i64 y.n, .int .u8 y.bin, .slice Y y.args.length cy, .int .i64 y.f, .int .i64 y.arr, .int .i64 y.to] 75)) := ((Below.refl _ _).alloc (Nat.le_refl _) _).alloc (by simp) _
  obtain ⟨W0, hW0⟩ : ∃ W0, W0 = (w.alloc (.cells #[.int .u8 x.op, .int .i64 x.v, .int .i64 x.a, .int .i64 x.b, .int .i64 x.n, .int .u8 x.bin, .slice X x.args.length cx, .int .i64 x.f, .int .i64 x.arr, .int .i64 x.to] 75)).alloc (.cells #[.int .u8 y.op, .int .i64 y.v, .int .i64 y.a, .int .i64 y.b, .int .i64 y.n, .int .u8 y.bin, .slice Y y.args.length cy, .int .i64 y.f, .int .i64 y.arr, .int .i64 y.to] 75) := ⟨_, rfl⟩
  simp only [World.size_alloc] at by'
  rw [← hW0] at bx by' hb0 ⊢
  clear hW0
  rw [← hxv] at bx
  rw [← hyv] at by'
  have HB0 := Lib.hid hb0
  have K0 := Lib.hid (bx.cell 0); have L0 := Lib.hid (by'.cell 0)
  have K1 := Lib.hid (bx.cell 1); have L1 := Lib.hid (by'.cell 1)
  have K2 := Lib.hid (bx.cell 2); have L2 := Lib.hid (by'.cell 2)
  have K3 := Lib.hid (bx.cell 3); have L3 := Lib.hid (by'.cell 3)
  have K4 := Lib.hid (bx.cell 4); have L4 := Lib.hid (by'.cell 4)
  have K5 := Lib.hid (bx.cell 5); have L5 := Lib.hid (by'.cell 5)
  have K6 := Lib.hid (bx.cell 6); have L6 := Lib.hid (by'.cell 6)
  have K7 := Lib.hid (bx.cell 7); have L7 := Lib.hid (by'.cell 7)
  have K8 := Lib.hid (bx.cell 8); have L8 := Lib.hid (by'.cell 8)
  have K9 := Lib.hid (bx.cell 9); have L9 := Lib.hid (by'.cell 9)
  have HC := Lib.hid (fun W (hW : Below W0.heap.size W0 W) => HC.out W (HB0.out.trans (hW.mono HB0.out.size)))
  clear hb0 bx by'
  obtain ⟨bb0, hbb0⟩ : ∃ b : Bool, b = ((x.op : Int) == (y.op : Int)) := ⟨_, rfl⟩
  have Hbb0 := Lib.hid hbb0; clear hbb0
  obtain ⟨bb1, hbb1⟩ : ∃ b : Bool, b = (bb0 && (x.v == y.v)) := ⟨_, rfl⟩
  have Hbb1 := Lib.hid hbb1; clear hbb1
  obtain ⟨bb2, hbb2⟩ : ∃ b : Bool, b = (bb1 && (x.a == y.a)) := ⟨_, rfl⟩
  have Hbb2 := Lib.hid hbb2; clear hbb2
  obtain ⟨bb3, hbb3⟩ : ∃ b : Bool, b = (bb2 && (x.b == y.b)) := ⟨_, rfl⟩
  have Hbb3 := Lib.hid hbb3; clear hbb3
  obtain ⟨bb4, hbb4⟩ : ∃ b : Bool, b = (bb3 && (x.n == y.n)) := ⟨_, rfl⟩
  have Hbb4 := Lib.hid hbb4; clear hbb4
  obtain ⟨bb5, hbb5⟩ : ∃ b : Bool, b = (bb4 && ((x.bin : Int) == (y.bin : Int))) := ⟨_, rfl⟩
  have Hbb5 := Lib.hid hbb5; clear hbb5
  obtain ⟨bb6, hbb6⟩ : ∃ b : Bool, b = (bb5 && (x.f == y.f)) := ⟨_, rfl⟩
  have Hbb6 := Lib.hid hbb6; clear hbb6
  obtain ⟨bb7, hbb7⟩ : ∃ b : Bool, b = (bb6 && (x.arr == y.arr)) := ⟨_, rfl⟩
  have Hbb7 := Lib.hid hbb7; clear hbb7
  obtain ⟨bb8, hbb8⟩ : ∃ b : Bool, b = (bb7 && (x.to == y.to)) := ⟨_, rfl⟩
  have Hbb8 := Lib.hid hbb8; clear hbb8
  obtain ⟨bb9, hbb9⟩ : ∃ b : Bool, b = (bb8 && ta) := ⟨_, rfl⟩
  have Hbb9 := Lib.hid hbb9; clear hbb9
  refine wp_region_valsA [(none, .pointer (some ⟨w.heap.size, 0, none⟩)), (none, .int .u8 (x.op : Int)), (none, .pointer (some ⟨(w.heap.size + 1), 0, none⟩)), (none, .int .u8 (y.op : Int)), (none, .bool ((x.op : Int) == (y.op : Int))), (none, .bool bb0), (some (10, true), gd bb0 true (.pointer (some ⟨w.heap.size, 1, none⟩))), (some (10, true), gd bb0 true (.int .i64 x.v)), (some (10, true), gd bb0 true (.pointer (some ⟨(w.heap.size + 1), 1, none⟩))), (some (10, true), gd bb0 true (.int .i64 y.v)), (some (10, true), gd bb0 true (.bool (x.v == y.v))), (none, .bool bb1), (none, .bool bb1), (some (17, true), gd bb1 true (.pointer (some ⟨w.heap.size, 2, none⟩))), (some (17, true), gd bb1 true (.int .i64 x.a)), (some (17, true), gd bb1 true (.pointer (some ⟨(w.heap.size + 1), 2, none⟩))), (some (17, true), gd bb1 true (.int .i64 y.a)), (some (17, true), gd bb1 true (.bool (x.a == y.a))), (none, .bool bb2), (none, .bool bb2), (some (24, true), gd bb2 true (.pointer (some ⟨w.heap.size, 3, none⟩))), (some (24, true), gd bb2 true (.int .i64 x.b)), (some (24, true), gd bb2 true (.pointer (some ⟨(w.heap.size + 1), 3, none⟩))), (some (24, true), gd bb2 true (.int .i64 y.b)), (some (24, true), gd bb2 true (.bool (x.b == y.b))), (none, .bool bb3), (none, .bool bb3), (some (31, true), gd bb3 true (.pointer (some ⟨w.heap.size, 4, none⟩))), (some (31, true), gd bb3 true (.int .i64 x.n)), (some (31, true), gd bb3 true (.pointer (some ⟨(w.heap.size + 1), 4, none⟩))), (some (31, true), gd bb3 true (.int .i64 y.n)), (some (31, true), gd bb3 true (.bool (x.n == y.n))), (none, .bool bb4), (none, .bool bb4), (some (38, true), gd bb4 true (.pointer (some ⟨w.heap.size, 5, none⟩))), (some (38, true), gd bb4 true (.int .u8 (x.bin : Int))), (some (38, true), gd bb4 true (.pointer (some ⟨(w.heap.size + 1), 5, none⟩))), (some (38, true), gd bb4 true (.int .u8 (y.bin : Int))), (some (38, true), gd bb4 true (.bool ((x.bin : Int) == (y.bin : Int)))), (none, .bool bb5), (none, .bool bb5), (some (45, true), gd bb5 true (.pointer (some ⟨w.heap.size, 7, none⟩))), (some (45, true), gd bb5 true (.int .i64 x.f)), (some (45, true), gd bb5 true (.pointer (some ⟨(w.heap.size + 1), 7, none⟩))), (some (45, true), gd bb5 true (.int .i64 y.f)), (some (45, true), gd bb5 true (.bool (x.f == y.f))), (none, .bool bb6), (none, .bool bb6), (some (52, true), gd bb6 true (.pointer (some ⟨w.heap.size, 8, none⟩))), (some (52, true), gd bb6 true (.int .i64 x.arr)), (some (52, true), gd bb6 true (.pointer (some ⟨(w.heap.size + 1), 8, none⟩))), (some (52, true), gd bb6 true (.int .i64 y.arr)), (some (52, true), gd bb6 true (.bool (x.arr == y.arr))), (none, .bool bb7), (none, .bool bb7), (some (59, true), gd bb7 true (.pointer (some ⟨w.heap.size, 9, none⟩))), (some (59, true), gd bb7 true (.int .i64 x.to)), (some (59, true), gd bb7 true (.pointer (some ⟨(w.heap.size + 1), 9, none⟩))), (some (59, true), gd bb7 true (.int .i64 y.to)), (some (59, true), gd bb7 true (.bool (x.to == y.to))), (none, .bool bb8), (none, .bool bb8), (some (66, true), gd bb8 true (.pointer (some ⟨w.heap.size, 6, none⟩))), (some (66, true), gd bb8 true (xv)), (some (66, true), gd bb8 true (.pointer (some ⟨(w.heap.size + 1), 6, none⟩))), (some (66, true), gd bb8 true (yv)), (some (66, true), gd bb8 true (.bool ta)), (none, .bool bb9), (none, .bool bb9)] mixed (by kernel_rfl) ?_
  intro FF AA hA hF
  have hL : HasL FF [(2, .pointer (some ⟨w.heap.size, 0, none⟩)), (3, .pointer (some ⟨(w.heap.size + 1), 0, none⟩)), (5, .pointer (some ⟨w.heap.size, 0, none⟩)), (6, .int .u8 (x.op : Int)), (7, .pointer (some ⟨(w.heap.size + 1), 0, none⟩)), (8, .int .u8 (y.op : Int)), (9, .bool ((x.op : Int) == (y.op : Int))), (10, .bool bb0), (11, gd bb0 true (.pointer (some ⟨w.heap.size, 1, none⟩))), (12, gd bb0 true (.int .i64 x.v)), (13, gd bb0 true (.pointer (some ⟨(w.heap.size + 1), 1, none⟩))), (14, gd bb0 true (.int .i64 y.v)), (15, gd bb0 true (.bool (x.v == y.v))), (16, .bool bb1), (17, .bool bb1), (18, gd bb1 true (.pointer (some ⟨w.heap.size, 2, none⟩))), (19, gd bb1 true (.int .i64 x.a)), (20, gd bb1 true (.pointer (some ⟨(w.heap.size + 1), 2, none⟩))), (21, gd bb1 true (.int .i64 y.a)), (22, gd bb1 true (.bool (x.a == y.a))), (23, .bool bb2), (24, .bool bb2), (25, gd bb2 true (.pointer (some ⟨w.heap.size, 3, none⟩))), (26, gd bb2 true (.int .i64 x.b)), (27, gd bb2 true (.pointer (some ⟨(w.heap.size + 1), 3, none⟩))), (28, gd bb2 true (.int .i64 y.b)), (29, gd bb2 true (.bool (x.b == y.b))), (30, .bool bb3), (31, .bool bb3), (32, gd bb3 true (.pointer (some ⟨w.heap.size, 4, none⟩))), (33, gd bb3 true (.int .i64 x.n)), (34, gd bb3 true (.pointer (some ⟨(w.heap.size + 1), 4, none⟩))), (35, gd bb3 true (.int .i64 y.n)), (36, gd bb3 true (.bool (x.n == y.n))), (37, .bool bb4), (38, .bool bb4), (39, gd bb4 true (.pointer (some ⟨w.heap.size, 5, none⟩))), (40, gd bb4 true (.int .u8 (x.bin : Int))), (41, gd bb4 true (.pointer (some ⟨(w.heap.size + 1), 5, none⟩))), (42, gd bb4 true (.int .u8 (y.bin : Int))), (43, gd bb4 true (.bool ((x.bin : Int) == (y.bin : Int)))), (44, .bool bb5), (45, .bool bb5), (46, gd bb5 true (.pointer (some ⟨w.heap.size, 7, none⟩))), (47, gd bb5 true (.int .i64 x.f)), (48, gd bb5 true (.pointer (some ⟨(w.heap.size + 1), 7, none⟩))), (49, gd bb5 true (.int .i64 y.f)), (50, gd bb5 true (.bool (x.f == y.f))), (51, .bool bb6), (52, .bool bb6), (53, gd bb6 true (.pointer (some ⟨w.heap.size, 8, none⟩))), (54, gd bb6 true (.int .i64 x.arr)), (55, gd bb6 true (.pointer (some ⟨(w.heap.size + 1), 8, none⟩))), (56, gd bb6 true (.int .i64 y.arr)), (57, gd bb6 true (.bool (x.arr == y.arr))), (58, .bool bb7), (59, .bool bb7), (60, gd bb7 true (.pointer (some ⟨w.heap.size, 9, none⟩))), (61, gd bb7 true (.int .i64 x.to)), (62, gd bb7 true (.pointer (some ⟨(w.heap.size + 1), 9, none⟩))), (63, gd bb7 true (.int .i64 y.to)), (64, gd bb7 true (.bool (x.to == y.to))), (65, .bool bb8), (66, .bool bb8), (67, gd bb8 true (.pointer (some ⟨w.heap.size, 6, none⟩))), (68, gd bb8 true (xv)), (69, gd bb8 true (.pointer (some ⟨(w.heap.size + 1), 6, none⟩))), (70, gd bb8 true (yv)), (71, gd bb8 true (.bool ta)), (72, .bool bb9), (4, .bool bb9)] := by unfold HasL; rw [hF, hA]; kernel_rfl
  have HF := Lib.hid hF; clear hF; have HA := Lib.hid hA; clear hA
  refine ⟨?_, ?_⟩
  · intro W hW
    repeat clear ‹∀ (a : Act) (w : World), Code.wp Tryz.prog _ _ a w → _›
    have gff := gd_ff
    have gtt := gd_tt
    exact
    ResL.cons (OpRes.val (by have a2 := hL.at 0 rfl; go_simp)) (
    ResL.cons (OpRes.val (by have a5 := hL.at 2 rfl; have kk := get_b hW K0.out; go_simp)) (
    ResL.cons (OpRes.val (by have a3 := hL.at 1 rfl; go_simp)) (
    ResL.cons (OpRes.val (by have a7 := hL.at 4 rfl; have kk := get_b hW L0.out; go_simp)) (
    ResL.cons (OpRes.val (by have a6 := hL.at 3 rfl; have a8 := hL.at 5 rfl; go_simp)) (
    ResL.cons (OpRes.val (by rw [Hbb0.out]; have a9 := hL.at 6 rfl; go_simp)) (
    ResL.cons (OpRes.gval (hL.at 7 rfl) (fun e0 => by have a2 := hL.at 0 rfl; subst e0; go_simp)) (
    ResL.cons (OpRes.gval (hL.at 7 rfl) (fun e0 => by have a11 := hL.at 8 rfl; have kk := get_b hW K1.out; subst e0; go_simp)) (
    ResL.cons (OpRes.gval (hL.at 7 rfl) (fun e0 => by have a3 := hL.at 1 rfl; subst e0; go_simp)) (
    ResL.cons (OpRes.gval (hL.at 7 rfl) (fun e0 => by have a13 := hL.at 10 rfl; have kk := get_b hW L1.out; subst e0; go_simp)) (
    ResL.cons (OpRes.gval (hL.at 7 rfl) (fun e0 => by have a12 := hL.at 9 rfl; have a14 := hL.at 11 rfl; subst e0; go_simp)) (
    ResL.cons (OpRes.val (by rw [Hbb1.out]; have a10 := hL.at 7 rfl; have a15 := hL.at 12 rfl; cases bb0 <;> go_simp)) (
    ResL.cons (OpRes.val (by have a16 := hL.at 13 rfl; go_simp)) (
    ResL.cons (OpRes.gval (hL.at 14 rfl) (fun e0 => by have a2 := hL.at 0 rfl; subst e0; go_simp)) (
    ResL.cons (OpRes.gval (hL.at 14 rfl) (fun e0 => by have a18 := hL.at 15 rfl; have kk := get_b hW K2.out; subst e0; go_simp)) (
    ResL.cons (OpRes.gval (hL.at 14 rfl) (fun e0 => by have a3 := hL.at 1 rfl; subst e0; go_simp)) (
    ResL.cons (OpRes.gval (hL.at 14 rfl) (fun e0 => by have a20 := hL.at 17 rfl; have kk := get_b hW L2.out; subst e0; go_simp)) (
    ResL.cons (OpRes.gval (hL.at 14 rfl) (fun e0 => by have a19 := hL.at 16 rfl; have a21 := hL.at 18 rfl; subst e0; go_simp)) (
    ResL.cons (OpRes.val (by rw [Hbb2.out]; have a17 := hL.at 14 rfl; have a22 := hL.at 19 rfl; cases bb1 <;> go_simp)) (
    ResL.cons (OpRes.val (by have a23 := hL.at 20 rfl; go_simp)) (
    ResL.cons (OpRes.gval (hL.at 21 rfl) (fun e0 => by have a2 := hL.at 0 rfl; subst e0; go_simp)) (
    ResL.cons (OpRes.gval (hL.at 21 rfl) (fun e0 => by have a25 := hL.at 22 rfl; have kk := get_b hW K3.out; subst e0; go_simp)) (
    ResL.cons (OpRes.gval (hL.at 21 rfl) (fun e0 => by have a3 := hL.at 1 rfl; subst e0; go_simp)) (
    ResL.cons (OpRes.gval (hL.at 21 rfl) (fun e0 => by have a27 := hL.at 24 rfl; have kk := get_b hW L3.out; subst e0; go_simp)) (
    ResL.cons (OpRes.gval (hL.at 21 rfl) (fun e0 => by have a26 := hL.at 23 rfl; have a28 := hL.at 25 rfl; subst e0; go_simp)) (
    ResL.cons (OpRes.val (by rw [Hbb3.out]; have a24 := hL.at 21 rfl; have a29 := hL.at 26 rfl; cases bb2 <;> go_simp)) (
    ResL.cons (OpRes.val (by have a30 := hL.at 27 rfl; go_simp)) (
    ResL.cons (OpRes.gval (hL.at 28 rfl) (fun e0 => by have a2 := hL.at 0 rfl; subst e0; go_simp)) (
    ResL.cons (OpRes.gval (hL.at 28 rfl) (fun e0 => by have a32 := hL.at 29 rfl; have kk := get_b hW K4.out; subst e0; go_simp)) (
    ResL.cons (OpRes.gval (hL.at 28 rfl) (fun e0 => by have a3 := hL.at 1 rfl; subst e0; go_simp)) (
    ResL.cons (OpRes.gval (hL.at 28 rfl) (fun e0 => by have a34 := hL.at 31 rfl; have kk := get_b hW L4.out; subst e0; go_simp)) (
    ResL.cons (OpRes.gval (hL.at 28 rfl) (fun e0 => by have a33 := hL.at 30 rfl; have a35 := hL.at 32 rfl; subst e0; go_simp)) (
    ResL.cons (OpRes.val (by rw [Hbb4.out]; have a31 := hL.at 28 rfl; have a36 := hL.at 33 rfl; cases bb3 <;> go_simp)) (
    ResL.cons (OpRes.val (by have a37 := hL.at 34 rfl; go_simp)) (
    ResL.cons (OpRes.gval (hL.at 35 rfl) (fun e0 => by have a2 := hL.at 0 rfl; subst e0; go_simp)) (
    ResL.cons (OpRes.gval (hL.at 35 rfl) (fun e0 => by have a39 := hL.at 36 rfl; have kk := get_b hW K5.out; subst e0; go_simp)) (
    ResL.cons (OpRes.gval (hL.at 35 rfl) (fun e0 => by have a3 := hL.at 1 rfl; subst e0; go_simp)) (
    ResL.cons (OpRes.gval (hL.at 35 rfl) (fun e0 => by have a41 := hL.at 38 rfl; have kk := get_b hW L5.out; subst e0; go_simp)) (
    ResL.cons (OpRes.gval (hL.at 35 rfl) (fun e0 => by have a40 := hL.at 37 rfl; have a42 := hL.at 39 rfl; subst e0; go_simp)) (
    ResL.cons (OpRes.val (by rw [Hbb5.out]; have a38 := hL.at 35 rfl; have a43 := hL.at 40 rfl; cases bb4 <;> go_simp)) (
    ResL.cons (OpRes.val (by have a44 := hL.at 41 rfl; go_simp)) (
    ResL.cons (OpRes.gval (hL.at 42 rfl) (fun e0 => by have a2 := hL.at 0 rfl; subst e0; go_simp)) (
    ResL.cons (OpRes.gval (hL.at 42 rfl) (fun e0 => by have a46 := hL.at 43 rfl; have kk := get_b hW K7.out; subst e0; go_simp)) (
    ResL.cons (OpRes.gval (hL.at 42 rfl) (fun e0 => by have a3 := hL.at 1 rfl; subst e0; go_simp)) (
    ResL.cons (OpRes.gval (hL.at 42 rfl) (fun e0 => by have a48 := hL.at 45 rfl; have kk := get_b hW L7.out; subst e0; go_simp)) (
    ResL.cons (OpRes.gval (hL.at 42 rfl) (fun e0 => by have a47 := hL.at 44 rfl; have a49 := hL.at 46 rfl; subst e0; go_simp)) (
    ResL.cons (OpRes.val (by rw [Hbb6.out]; have a45 := hL.at 42 rfl; have a50 := hL.at 47 rfl; cases bb5 <;> go_simp)) (
    ResL.cons (OpRes.val (by have a51 := hL.at 48 rfl; go_simp)) (
    ResL.cons (OpRes.gval (hL.at 49 rfl) (fun e0 => by have a2 := hL.at 0 rfl; subst e0; go_simp)) (
    ResL.cons (OpRes.gval (hL.at 49 rfl) (fun e0 => by have a53 := hL.at 50 rfl; have kk := get_b hW K8.out; subst e0; go_simp)) (
    ResL.cons (OpRes.gval (hL.at 49 rfl) (fun e0 => by have a3 := hL.at 1 rfl; subst e0; go_simp)) (
    ResL.cons (OpRes.gval (hL.at 49 rfl) (fun e0 => by have a55 := hL.at 52 rfl; have kk := get_b hW L8.out; subst e0; go_simp)) (
    ResL.cons (OpRes.gval (hL.at 49 rfl) (fun e0 => by have a54 := hL.at 51 rfl; have a56 := hL.at 53 rfl; subst e0; go_simp)) (
    ResL.cons (OpRes.val (by rw [Hbb7.out]; have a52 := hL.at 49 rfl; have a57 := hL.at 54 rfl; cases bb6 <;> go_simp)) (
    ResL.cons (OpRes.val (by have a58 := hL.at 55 rfl; go_simp)) (
    ResL.cons (OpRes.gval (hL.at 56 rfl) (fun e0 => by have a2 := hL.at 0 rfl; subst e0; go_simp)) (
    ResL.cons (OpRes.gval (hL.at 56 rfl) (fun e0 => by have a60 := hL.at 57 rfl; have kk := get_b hW K9.out; subst e0; go_simp)) (
    ResL.cons (OpRes.gval (hL.at 56 rfl) (fun e0 => by have a3 := hL.at 1 rfl; subst e0; go_simp)) (
    ResL.cons (OpRes.gval (hL.at 56 rfl) (fun e0 => by have a62 := hL.at 59 rfl; have kk := get_b hW L9.out; subst e0; go_simp)) (
    ResL.cons (OpRes.gval (hL.at 56 rfl) (fun e0 => by have a61 := hL.at 58 rfl; have a63 := hL.at 60 rfl; subst e0; go_simp)) (
    ResL.cons (OpRes.val (by rw [Hbb8.out]; have a59 := hL.at 56 rfl; have a64 := hL.at 61 rfl; cases bb7 <;> go_simp)) (
    ResL.cons (OpRes.val (by have a65 := hL.at 62 rfl; go_simp)) (
    ResL.cons (OpRes.gval (hL.at 63 rfl) (fun e0 => by have a2 := hL.at 0 rfl; subst e0; go_simp)) (
    ResL.cons (OpRes.gval (hL.at 63 rfl) (fun e0 => by have a67 := hL.at 64 rfl; have kk := get_b hW K6.out; subst e0; go_simp)) (
    ResL.cons (OpRes.gval (hL.at 63 rfl) (fun e0 => by have a3 := hL.at 1 rfl; subst e0; go_simp)) (
    ResL.cons (OpRes.gval (hL.at 63 rfl) (fun e0 => by have a69 := hL.at 66 rfl; have kk := get_b hW L6.out; subst e0; go_simp)) (
    ResL.cons (OpRes.gcall 63 #[xv, yv] (hL.at 63 rfl) (fun e0 => by have a68 := hL.at 65 rfl; have a70 := hL.at 67 rfl; subst e0; go_simp) (fun e0 => HC.out W hW)) (
    ResL.cons (OpRes.val (by rw [Hbb9.out]; have a66 := hL.at 63 rfl; have a71 := hL.at 68 rfl; cases bb8 <;> go_simp)) (
    ResL.cons (OpRes.val (by have a72 := hL.at 69 rfl; go_simp)) (
    ResL.nil)))))))))))))))))))))))))))))))))))))))))))))))))))))))))))))))))))))
  intro W hW
  clear hL
  obtain ⟨gg, hFF⟩ : ∃ gg : Nat → Value, FF = putL [(5, gg 5), (6, gg 6), (7, gg 7), (8, gg 8), (9, gg 9), (10, gg 10), (11, gg 11), (12, gg 12), (13, gg 13), (14, gg 14), (15, gg 15), (16, gg 16), (17, gg 17), (18, gg 18), (19, gg 19), (20, gg 20), (21, gg 21), (22, gg 22), (23, gg 23), (24, gg 24), (25, gg 25), (26, gg 26), (27, gg 27), (28, gg 28), (29, gg 29), (30, gg 30), (31, gg 31), (32, gg 32), (33, gg 33), (34, gg 34), (35, gg 35), (36, gg 36), (37, gg 37), (38, gg 38), (39, gg 39), (40, gg 40), (41, gg 41), (42, gg 42), (43, gg 43), (44, gg 44), (45, gg 45), (46, gg 46), (47, gg 47), (48, gg 48), (49, gg 49), (50, gg 50), (51, gg 51), (52, gg 52), (53, gg 53), (54, gg 54), (55, gg 55), (56, gg 56), (57, gg 57), (58, gg 58), (59, gg 59), (60, gg 60), (61, gg 61), (62, gg 62), (63, gg 63), (64, gg 64), (65, gg 65), (66, gg 66), (67, gg 67), (68, gg 68), (69, gg 69), (70, gg 70), (71, gg 71), (72, gg 72), (4, .bool bb9)] AA := ⟨fun k => FF.tmps.getD k undef, by rw [HF.out, HA.out]; kernel_rfl⟩
  clear HF
  rw [HA.out] at hFF; clear HA
  simp only [putL, Act.put, List.setIfInBounds_toArray, List.set_cons_zero, List.set_cons_succ] at hFF
  subst hFF
  refine wpList_nil ?_
  have HV := Lib.hid (HB0.out.trans (hW.mono HB0.out.size)); clear hW
  have HR := Lib.hid (show bb9 = res by
    have q := HEQ.out
    have qbb0 := Hbb0.out; have qbb1 := Hbb1.out; have qbb2 := Hbb2.out; have qbb3 := Hbb3.out; have qbb4 := Hbb4.out; have qbb5 := Hbb5.out; have qbb6 := Hbb6.out; have qbb7 := Hbb7.out; have qbb8 := Hbb8.out; have qbb9 := Hbb9.out
    subst qbb9 qbb8 qbb7 qbb6 qbb5 qbb4 qbb3 qbb2 qbb1 qbb0
    rw [q])
  clear HC
  go_wp2_with fail
  go_ret
  exact ⟨ret_b HR.out, HV.out⟩

theorem join4 {α β γ δ : Type} {H G : α → β → γ → δ → Prop} {goal : Prop} (h1 : (∀ a b c d, H a b c d → G a b c d) → goal) (h2 : ∀ a b c d, H a b c d → G a b c d) : goal := h1 h2
set_option maxRecDepth 100000 in
set_option maxHeartbeats 16000000 in
theorem rsame_any (g h : PrG) (w : World) (hg : PrR w g) (hh : PrR w h) (tg : PrT g.p) (th : PrT h.p) :
    Calls Tryz.prog 19 #[prV g, prV h] w fun e w' => e = .returned (.bool (decide (g.p = h.p))) ∧ Below w.heap.size w w' := by
  obtain ⟨p, av, fv, l⟩ := g
  obtain ⟨q, bv, gv, m⟩ := h
  dsimp only at tg th
  have hca : ∀ W, Below w.heap.size w W → Calls Tryz.prog 63 #[av, bv] W fun e w' => e = .returned (.bool (decide (p.arrays = q.arrays))) ∧ Below W.heap.size W w' := fun W hW =>
    eqints63 _ _ _ _ W (hg.arrays.below hW) (hh.arrays.below hW) tg.arrays
  have heq := prw_eq p q
  have hgf := hg.fns; have hhf := hh.fns
  have hge := hg.eq; have hhe := hh.eq
  dsimp only at hge hhe hgf hhf
  obtain ⟨⟨A, ca, hav, _, _⟩, ⟨F, cf, hfv, _, hfr⟩, _⟩ := hg
  obtain ⟨⟨A2, ca2, hbv, _, _⟩, ⟨G, cg, hgv, _, hgr⟩, _⟩ := hh
  dsimp only at hav hfv hbv hgv hfr hgr
  obtain ⟨nl, hnl⟩ : ∃ n, n = l.length := ⟨_, rfl⟩
  obtain ⟨nm, hnm⟩ : ∃ n, n = m.length := ⟨_, rfl⟩
  rw [← hnl] at hfv
  rw [← hnm] at hgv
  have hnlb : nl ≤ 1000000 := by have := tg.fns; rw [← hge, List.length_map] at this; omega
  unfold prV
  dsimp only
  rw [hav, hfv, hbv, hgv]
  obtain ⟨ta, hta⟩ : ∃ b, b = decide (p.arrays = q.arrays) := ⟨_, rfl⟩
  rw [← hta] at hca heq
  generalize decide (p = q) = res at heq ⊢
  have HCA := Lib.hid (fun W (hW : Below w.heap.size w W) => hca W hW); have HEQ := Lib.hid heq; have HGE := Lib.hid hge; have HHE := Lib.hid hhe; have HNL := Lib.hid hnl; have HNM := Lib.hid hnm; have HFR := Lib.hid hfr; have HGR := Lib.hid hgr; have HNLB := Lib.hid hnlb; have TG := Lib.hid tg; have TH := Lib.hid th
  clear hca heq hta hge hhe hnl hnm hfr hgr hgf hhf hnlb tg th
  go_enter Tryz.func19, Tryz.ntmps19
  go_upto_region 1 with fail
  have bx := (Blk.new w 30 #[.slice A p.arrays.length ca, .slice F nl cf, .int .i64 p.main]).alloc (.cells #[.slice A2 q.arrays.length ca2, .slice G nm cg, .int .i64 q.main] 30)
  have by' := Blk.new (w.alloc (.cells #[.slice A p.arrays.length ca, .slice F nl cf, .int .i64 p.main] 30)) 30 #[.slice A2 q.arrays.length ca2, .slice G nm cg, .int .i64 q.main]
  have hb0 : Below w.heap.size w ((w.alloc (.cells #[.slice A p.arrays.length ca, .slice F nl cf, .int .i64 p.main] 30)).alloc (.cells #[.slice A2 q.arrays.length ca2, .slice G nm cg, .int .i64 q.main] 30)) := ((Below.refl _ _).alloc (Nat.le_refl _) _).alloc (by simp) _
  obtain ⟨W0, hW0⟩ : ∃ W0, W0 = (w.alloc (.cells #[.slice A p.arrays.length ca, .slice F nl cf, .int .i64 p.main] 30)).alloc (.cells #[.slice A2 q.arrays.length ca2, .slice G nm cg, .int .i64 q.main] 30) := ⟨_, rfl⟩
  simp only [World.size_alloc] at by'
  rw [← hW0] at bx by' hb0 ⊢
  clear hW0
  rw [← hav] at bx
  rw [← hbv] at by'
  have HB0 := Lib.hid hb0
  have K0 := Lib.hid (bx.cell 0); have K1 := Lib.hid (bx.cell 1); have K2 := Lib.hid (bx.cell 2)
  have L0 := Lib.hid (by'.cell 0); have L1 := Lib.hid (by'.cell 1); have L2 := Lib.hid (by'.cell 2)
  have HCA := Lib.hid (fun W (hW : Below W0.heap.size W0 W) => HCA.out W (HB0.out.trans (hW.mono HB0.out.size)))
  clear hb0 bx by' hav hbv hfv hgv
  obtain ⟨bb0, hbb0⟩ : ∃ b : Bool, b = (p.main != q.main) := ⟨_, rfl⟩
  have Hbb0 := Lib.hid hbb0; clear hbb0
  obtain ⟨bb1, hbb1⟩ : ∃ b : Bool, b = (bb0 || (!ta)) := ⟨_, rfl⟩
  have Hbb1 := Lib.hid hbb1; clear hbb1
  obtain ⟨bb2, hbb2⟩ : ∃ b : Bool, b = (bb1 || ((nl : Int) != (nm : Int))) := ⟨_, rfl⟩
  have Hbb2 := Lib.hid hbb2; clear hbb2
  refine wp_region_valsA [(none, .pointer (some ⟨w.heap.size, 2, none⟩)), (none, .int .i64 p.main), (none, .pointer (some ⟨(w.heap.size + 1), 2, none⟩)), (none, .int .i64 q.main), (none, .bool (p.main != q.main)), (none, .bool bb0), (some (14, false), gd bb0 false (.pointer (some ⟨w.heap.size, 0, none⟩))), (some (14, false), gd bb0 false (av)), (some (14, false), gd bb0 false (.pointer (some ⟨(w.heap.size + 1), 0, none⟩))), (some (14, false), gd bb0 false (bv)), (some (14, false), gd bb0 false (.bool ta)), (some (14, false), gd bb0 false (.bool (!ta))), (none, .bool bb1), (none, .bool bb1), (some (22, false), gd bb1 false (.pointer (some ⟨w.heap.size, 1, none⟩))), (some (22, false), gd bb1 false (.slice F nl cf)), (some (22, false), gd bb1 false (.int .i64 (nl : Int))), (some (22, false), gd bb1 false (.pointer (some ⟨(w.heap.size + 1), 1, none⟩))), (some (22, false), gd bb1 false (.slice G nm cg)), (some (22, false), gd bb1 false (.int .i64 (nm : Int))), (some (22, false), gd bb1 false (.bool ((nl : Int) != (nm : Int)))), (none, .bool bb2)] mixed (by kernel_rfl) ?_
  intro FF AA hA hF
  have hL : HasL FF [(2, .pointer (some ⟨w.heap.size, 0, none⟩)), (3, .pointer (some ⟨(w.heap.size + 1), 0, none⟩)), (9, .pointer (some ⟨w.heap.size, 2, none⟩)), (10, .int .i64 p.main), (11, .pointer (some ⟨(w.heap.size + 1), 2, none⟩)), (12, .int .i64 q.main), (13, .bool (p.main != q.main)), (14, .bool bb0), (15, gd bb0 false (.pointer (some ⟨w.heap.size, 0, none⟩))), (16, gd bb0 false (av)), (17, gd bb0 false (.pointer (some ⟨(w.heap.size + 1), 0, none⟩))), (18, gd bb0 false (bv)), (19, gd bb0 false (.bool ta)), (20, gd bb0 false (.bool (!ta))), (21, .bool bb1), (22, .bool bb1), (23, gd bb1 false (.pointer (some ⟨w.heap.size, 1, none⟩))), (24, gd bb1 false (.slice F nl cf)), (25, gd bb1 false (.int .i64 (nl : Int))), (26, gd bb1 false (.pointer (some ⟨(w.heap.size + 1), 1, none⟩))), (27, gd bb1 false (.slice G nm cg)), (28, gd bb1 false (.int .i64 (nm : Int))), (29, gd bb1 false (.bool ((nl : Int) != (nm : Int)))), (30, .bool bb2)] := by unfold HasL; rw [hF, hA]; kernel_rfl
  have HF := Lib.hid hF; clear hF; have HA := Lib.hid hA; clear hA
  refine ⟨?_, ?_⟩
  · intro W hW
    repeat clear ‹∀ (a : Act) (w : World), Code.wp Tryz.prog _ _ a w → _›
    have gff := gd_ff
    have gtt := gd_tt
    exact
    ResL.cons (OpRes.val (by have a2 := hL.at 0 rfl; go_simp)) (
    ResL.cons (OpRes.val (by have a9 := hL.at 2 rfl; have kk := get_b hW K2.out; go_simp)) (
    ResL.cons (OpRes.val (by have a3 := hL.at 1 rfl; go_simp)) (
    ResL.cons (OpRes.val (by have a11 := hL.at 4 rfl; have kk := get_b hW L2.out; go_simp)) (
    ResL.cons (OpRes.val (by have a10 := hL.at 3 rfl; have a12 := hL.at 5 rfl; go_simp)) (
    ResL.cons (OpRes.val (by rw [Hbb0.out]; have a13 := hL.at 6 rfl; go_simp)) (
    ResL.cons (OpRes.gval (hL.at 7 rfl) (fun e0 => by have a2 := hL.at 0 rfl; subst e0; go_simp)) (
    ResL.cons (OpRes.gval (hL.at 7 rfl) (fun e0 => by have a15 := hL.at 8 rfl; have kk := get_b hW K0.out; subst e0; go_simp)) (
    ResL.cons (OpRes.gval (hL.at 7 rfl) (fun e0 => by have a3 := hL.at 1 rfl; subst e0; go_simp)) (
    ResL.cons (OpRes.gval (hL.at 7 rfl) (fun e0 => by have a17 := hL.at 10 rfl; have kk := get_b hW L0.out; subst e0; go_simp)) (
    ResL.cons (OpRes.gcall 63 #[av, bv] (hL.at 7 rfl) (fun e0 => by have a16 := hL.at 9 rfl; have a18 := hL.at 11 rfl; subst e0; go_simp) (fun e0 => HCA.out W hW)) (
    ResL.cons (OpRes.gval (hL.at 7 rfl) (fun e0 => by have a19 := hL.at 12 rfl; subst e0; go_simp)) (
    ResL.cons (OpRes.val (by rw [Hbb1.out]; have a14 := hL.at 7 rfl; have a20 := hL.at 13 rfl; cases bb0 <;> go_simp)) (
    ResL.cons (OpRes.val (by have a21 := hL.at 14 rfl; go_simp)) (
    ResL.cons (OpRes.gval (hL.at 15 rfl) (fun e0 => by have a2 := hL.at 0 rfl; subst e0; go_simp)) (
    ResL.cons (OpRes.gval (hL.at 15 rfl) (fun e0 => by have a23 := hL.at 16 rfl; have kk := get_b hW K1.out; subst e0; go_simp)) (
    ResL.cons (OpRes.gval (hL.at 15 rfl) (fun e0 => by have a24 := hL.at 17 rfl; subst e0; go_simp)) (
    ResL.cons (OpRes.gval (hL.at 15 rfl) (fun e0 => by have a3 := hL.at 1 rfl; subst e0; go_simp)) (
    ResL.cons (OpRes.gval (hL.at 15 rfl) (fun e0 => by have a26 := hL.at 19 rfl; have kk := get_b hW L1.out; subst e0; go_simp)) (
    ResL.cons (OpRes.gval (hL.at 15 rfl) (fun e0 => by have a27 := hL.at 20 rfl; subst e0; go_simp)) (
    ResL.cons (OpRes.gval (hL.at 15 rfl) (fun e0 => by have a25 := hL.at 18 rfl; have a28 := hL.at 21 rfl; subst e0; go_simp)) (
    ResL.cons (OpRes.val (by rw [Hbb2.out]; have a22 := hL.at 15 rfl; have a29 := hL.at 22 rfl; cases bb1 <;> go_simp)) (
    ResL.nil))))))))))))))))))))))
  intro W hW
  clear hL
  obtain ⟨gg, hFF⟩ : ∃ gg : Nat → Value, FF = putL [(9, gg 9), (10, gg 10), (11, gg 11), (12, gg 12), (13, gg 13), (14, gg 14), (15, gg 15), (16, gg 16), (17, gg 17), (18, gg 18), (19, gg 19), (20, gg 20), (21, gg 21), (22, gg 22), (23, gg 23), (24, gg 24), (25, gg 25), (26, gg 26), (27, gg 27), (28, gg 28), (29, gg 29), (30, .bool bb2)] AA := ⟨fun k => FF.tmps.getD k undef, by rw [HF.out, HA.out]; kernel_rfl⟩
  clear HF
  rw [HA.out] at hFF; clear HA
  simp only [putL, Act.put, List.setIfInBounds_toArray, List.set_cons_zero, List.set_cons_succ] at hFF
  subst hFF
  refine wpList_nil ?_
  have HV := Lib.hid (HB0.out.trans (hW.mono HB0.out.size))
  have D1 := Lib.hid (get_b hW K1.out); have E1 := Lib.hid (get_b hW L1.out)
  have hcond : bb2 = !((p.main == q.main) && ta && ((nl : Int) == (nm : Int))) := by
    have qbb0 := Hbb0.out; have qbb1 := Hbb1.out; have qbb2 := Hbb2.out
    subst qbb2 qbb1 qbb0
    simp only [bne, Bool.not_and]
  clear hW HCA K0 K1 K2 L0 L1 L2
  cases hbb : bb2 with
  | true =>
    have HE := Lib.hid (show res = false by
      rw [hbb] at hcond
      rw [HEQ.out]
      by_cases hnn : nl = nm
      · have : ((nl : Int) == (nm : Int)) = true := by simp [hnn]
        rw [this] at hcond
        revert hcond
        cases ((p.main == q.main) && ta) <;> simp
      · rw [decide_eq_false (show ¬ p.fns = q.fns from fun e => hnn (by rw [HNL.out, HNM.out, ← List.length_map (f := fun x : FnG => x.fn), HGE.out, e, ← HHE.out, List.length_map]))]
        simp)
    clear hcond hbb
    go_wp2_with fail
    go_ret
    exact ⟨ret_b HE.out.symm, HV.out⟩
  | false =>
    have hall : ((p.main == q.main) && ta) = true ∧ nl = nm := by
      rw [hbb] at hcond
      have h2 : ((p.main == q.main) && ta && ((nl : Int) == (nm : Int))) = true := by
        revert hcond
        cases ((p.main == q.main) && ta && ((nl : Int) == (nm : Int))) <;> simp
      rw [Bool.and_eq_true] at h2
      exact ⟨h2.1, by have := eq_of_beq h2.2; omega⟩
    obtain ⟨h1, rfl⟩ := hall
    have HE := Lib.hid (show res = decide (p.fns = q.fns) by rw [HEQ.out, h1]; rfl)
    clear hcond hbb h1 HEQ Hbb0 Hbb1 Hbb2
    go_wp2_with fail
    go_loopg [5] nl (fun gk v wr => ∃ i : Nat, i ≤ nl ∧ nl - i ≤ gk ∧ v = .int .i64 i ∧ Hid (Below W.heap.size W wr) ∧ Hid (p.fns.take i = q.fns.take i))
    case atStart => exact ⟨0, Nat.zero_le _, Nat.le_refl _, rfl, Lib.hid (Below.refl _ _), Lib.hid (by simp)⟩
    case round =>
      obtain ⟨i, hi, hgk, rfl, HB, HI⟩ := hrel
      have k1 := get_b HB.out D1.out; have l1 := get_b HB.out E1.out
      have lk := cell_lt' k1; have ll := cell_lt' l1
      by_cases hlt : i < nl
      case neg =>
        have q' : decide ((i : Int) < (nl : Int)) = false := decide_eq_false (by omega)
        have HRR := Lib.hid (show res = true by
          have e := HI.out
          have n1 : p.fns.length = nl := by rw [HNL.out, ← HGE.out, List.length_map]
          have n2 : q.fns.length = nl := by rw [HNM.out, ← HHE.out, List.length_map]
          rw [List.take_of_length_le (by omega), List.take_of_length_le (by omega)] at e
          rw [HE.out]
          exact decide_eq_true e)
        go_wp2_with fail
        go_ret
        exact ⟨ret_b HRR.out.symm, HV.out.trans (HB.out.mono HV.out.size)⟩
      case pos =>
        have q' : decide ((i : Int) < (nl : Int)) = true := decide_eq_true (by omega)
        obtain ⟨x, hx⟩ : ∃ x, l[i]? = some x := ⟨_, List.getElem?_eq_getElem (by rw [← HNL.out]; exact hlt)⟩
        obtain ⟨y, hy⟩ : ∃ y, m[i]? = some y := ⟨_, List.getElem?_eq_getElem (by rw [← HNM.out]; exact hlt)⟩
        have hwr := HV.out.trans (HB.out.mono HV.out.size)
        obtain ⟨fb, fo, hFe, hxf⟩ : ∃ b o, F = some ⟨b, o, none⟩ ∧ fnAt w b (o + i * 4) x := by
          rcases HFR.out with e | ⟨b, o, e, k⟩
          · rw [e] at hx; simp at hx
          · exact ⟨b, o, e, k i x hx⟩
        obtain ⟨gb, go, hGe, hyf⟩ : ∃ b o, G = some ⟨b, o, none⟩ ∧ fnAt w b (o + i * 4) y := by
          rcases HGR.out with e | ⟨b, o, e, k⟩
          · rw [e] at hy; simp at hy
          · exact ⟨b, o, e, k i y hy⟩
        subst hFe; subst hGe
        obtain ⟨C, cc, hcv, _, hci⟩ := hxf.code
        obtain ⟨D, dc, hdv, _, hdi⟩ := hyf.code
        obtain ⟨nc, hnc⟩ : ∃ n, n = x.l.length := ⟨_, rfl⟩
        obtain ⟨nd, hnd⟩ : ∃ n, n = y.l.length := ⟨_, rfl⟩
        rw [← hnc] at hcv
        rw [← hnd] at hdv
        have HXF := Lib.hid (hxf.below hwr); have HYF := Lib.hid (hyf.below hwr); have HCV := Lib.hid hcv; have HDV := Lib.hid hdv; have HII := Lib.hid (show (i : Int) < (nl : Int) by omega)
        have HX := Lib.hid hx; have HYY := Lib.hid hy; have HNC := Lib.hid hnc; have HND := Lib.hid hnd; have HCI := Lib.hid hci; have HDI := Lib.hid hdi; have HWR := Lib.hid hwr
        have HXE := Lib.hid hxf.eq; have HYE := Lib.hid hyf.eq
        clear hx hy hxf hyf hcv hdv hnc hnd hci hdi hwr
        go_upto_region 6 with fail
        apply join4 (H := fun (_ : Nat → Value) p6 p7 (W2 : World) => Below wr.heap.size wr W2 ∧ FnB W2 p6 ⟨x.fn, .slice C nc cc, x.l⟩ ∧ FnB W2 p7 ⟨y.fn, .slice D nd dc, y.l⟩)
        intro KEY
        refine wp_region_float [some (none, .pointer (some ⟨w.heap.size, 1, none⟩)), some (none, .slice (some ⟨fb, fo, none⟩) nl cf), some (none, .int .i64 (i : Int)), some (none, .pointer (some ⟨fb, fo + i * 4, none⟩)), some (none, .agg #[.string ⟨x.fn.name.toArray⟩, .int .i64 x.fn.params, .int .i64 x.fn.vars, .slice C nc cc]), some (none, .pointer (some ⟨(w.heap.size + 1), 1, none⟩)), some (none, .slice (some ⟨gb, go, none⟩) nl cg), some (none, .int .i64 (i : Int)), some (none, .pointer (some ⟨gb, go + i * 4, none⟩)), some (none, .agg #[.string ⟨y.fn.name.toArray⟩, .int .i64 y.fn.params, .int .i64 y.fn.vars, .slice D nd dc]), none, none, none, none] (fun W => Below wr.heap.size wr W) 4 mixed (fun _ a a2 _ hd h => by cases a; cases a2; cases hd; exact h) (by kernel_rfl) (fun _ _ h => h) ?_
        intro FF AA Wd hA hF hWh hWd
        have hL : HasL FF [(2, .pointer (some ⟨w.heap.size, 0, none⟩)), (3, .pointer (some ⟨(w.heap.size + 1), 0, none⟩)), (5, .int .i64 (i : Int)), (38, .pointer (some ⟨w.heap.size, 1, none⟩)), (39, .slice (some ⟨fb, fo, none⟩) nl cf), (40, .int .i64 (i : Int)), (41, .pointer (some ⟨fb, fo + i * 4, none⟩)), (42, .agg #[.string ⟨x.fn.name.toArray⟩, .int .i64 x.fn.params, .int .i64 x.fn.vars, .slice C nc cc]), (43, .pointer (some ⟨(w.heap.size + 1), 1, none⟩)), (44, .slice (some ⟨gb, go, none⟩) nl cg), (45, .int .i64 (i : Int)), (46, .pointer (some ⟨gb, go + i * 4, none⟩)), (47, .agg #[.string ⟨y.fn.name.toArray⟩, .int .i64 y.fn.params, .int .i64 y.fn.vars, .slice D nd dc])] := by unfold HasL; rw [hF, hA]; kernel_rfl
        have HF := Lib.hid hF; clear hF; have HA := Lib.hid hA; clear hA
        refine ⟨?_, ?_⟩
        · intro Z hZ
          repeat clear ‹∀ (a : Act) (w : World), Code.wp Tryz.prog _ _ a w → _›
          have gff := gd_ff
          have gtt := gd_tt
          have hi0 := HII.out
          exact
          ResF.cons (FlRes.val (by have a2 := hL.at 0 rfl; go_simp)) (
          ResF.cons (FlRes.val (by have a38 := hL.at 3 rfl; have kk := get_b hZ k1; go_simp)) (
          ResF.cons (FlRes.val (by have a5 := hL.at 2 rfl; go_simp)) (
          ResF.cons (FlRes.val (by have a39 := hL.at 4 rfl; have a40 := hL.at 5 rfl; go_simp)) (
          ResF.cons (FlRes.val (by have a41 := hL.at 6 rfl; have s0 := get_b hZ HXF.out.c0; have s1 := get_b hZ HXF.out.c1; have s2 := get_b hZ HXF.out.c2; have s3 := get_b hZ HXF.out.c3; rw [HCV.out] at s3; go_simp)) (
          ResF.cons (FlRes.val (by have a3 := hL.at 1 rfl; go_simp)) (
          ResF.cons (FlRes.val (by have a43 := hL.at 8 rfl; have kk := get_b hZ l1; go_simp)) (
          ResF.cons (FlRes.val (by have a5 := hL.at 2 rfl; go_simp)) (
          ResF.cons (FlRes.val (by have a44 := hL.at 9 rfl; have a45 := hL.at 10 rfl; go_simp)) (
          ResF.cons (FlRes.val (by have a46 := hL.at 11 rfl; have s0 := get_b hZ HYF.out.c0; have s1 := get_b hZ HYF.out.c1; have s2 := get_b hZ HYF.out.c2; have s3 := get_b hZ HYF.out.c3; rw [HDV.out] at s3; go_simp)) (
          ResF.pass (
          ResF.pass (
          ResF.pass (
          ResF.pass (
          ResF.nil))))))))))))))
        clear hL
        obtain ⟨gf, hFF⟩ : ∃ gf : Nat → Value, FF = putL [(38, gf 38), (39, gf 39), (40, gf 40), (41, gf 41), (42, .agg #[.string ⟨x.fn.name.toArray⟩, .int .i64 x.fn.params, .int .i64 x.fn.vars, .slice C nc cc]), (43, gf 43), (44, gf 44), (45, gf 45), (46, gf 46), (47, .agg #[.string ⟨y.fn.name.toArray⟩, .int .i64 y.fn.params, .int .i64 y.fn.vars, .slice D nd dc])] AA := ⟨fun k => FF.tmps.getD k undef, by rw [HF.out, HA.out]; kernel_rfl⟩
        clear HF
        rw [HA.out] at hFF; clear HA
        simp only [putL, Act.put, List.setIfInBounds_toArray, List.set_cons_zero, List.set_cons_succ] at hFF
        subst hFF
        refine wpAnyS_two 10 11 rfl rfl (by kernel_rfl) (fun KK hK => ?_) (fun KK hK => ?_)
        · go_simp
          refine hK.out _ _ (Or.inl (hWd.alloc hWd.size _)) ?_
          clear hK
          refine wpAnyS_one 11 rfl (by kernel_rfl) (fun KK hK => ?_)
          go_simp
          refine hK.out _ _ (Or.inl ((hWd.alloc hWd.size _).alloc (by have := hWd.size; simp; omega) _)) ?_
          clear hK
          refine wpAnyS_one 12 rfl (by kernel_rfl) (fun KK hK => ?_)
          go_simp
          refine hK.out _ _ (Or.inl ((hWd.alloc hWd.size _).alloc (by have := hWd.size; simp; omega) _)) ?_
          clear hK
          refine wpAnyS_one 13 rfl (by kernel_rfl) (fun KK hK => ?_)
          go_simp
          refine hK.out _ _ (Or.inl ((hWd.alloc hWd.size _).alloc (by have := hWd.size; simp; omega) _)) ?_
          clear hK
          refine wpAnyS_end (by kernel_rfl) ?_
          have hbb := (hWd.alloc hWd.size (.cells #[.string ⟨x.fn.name.toArray⟩, .int .i64 x.fn.params, .int .i64 x.fn.vars, .slice C nc cc] 63)).alloc (by have := hWd.size; simp; omega) (.cells #[.string ⟨y.fn.name.toArray⟩, .int .i64 y.fn.params, .int .i64 y.fn.vars, .slice D nd dc] 63)
          have b1 := (Blk.new Wd 63 #[.string ⟨x.fn.name.toArray⟩, .int .i64 x.fn.params, .int .i64 x.fn.vars, .slice C nc cc]).alloc (.cells #[.string ⟨y.fn.name.toArray⟩, .int .i64 y.fn.params, .int .i64 y.fn.vars, .slice D nd dc] 63)
          have b2 := Blk.new (Wd.alloc (.cells #[.string ⟨x.fn.name.toArray⟩, .int .i64 x.fn.params, .int .i64 x.fn.vars, .slice C nc cc] 63)) 63 #[.string ⟨y.fn.name.toArray⟩, .int .i64 y.fn.params, .int .i64 y.fn.vars, .slice D nd dc]
          have hsz : Wd.heap.size = wr.heap.size := by rw [hWh]
          simp only [World.size_alloc] at b2
          rw [hsz] at b1 b2
          obtain ⟨W2, hW2⟩ : ∃ W2, W2 = (Wd.alloc (.cells #[.string ⟨x.fn.name.toArray⟩, .int .i64 x.fn.params, .int .i64 x.fn.vars, .slice C nc cc] 63)).alloc (.cells #[.string ⟨y.fn.name.toArray⟩, .int .i64 y.fn.params, .int .i64 y.fn.vars, .slice D nd dc] 63) := ⟨_, rfl⟩
          rw [← hW2] at b1 b2 hbb ⊢
          obtain ⟨a7, h7⟩ : ∃ a, a = wr.heap.size + 1 := ⟨_, rfl⟩
          obtain ⟨a6, h6⟩ : ∃ a, a = wr.heap.size := ⟨_, rfl⟩
          have HH := Lib.hid hbb
          clear hbb hW2
          rw [← h7] at b2 ⊢
          rw [← h6] at b1 ⊢
          exact KEY gf a6 a7 W2 ⟨HH.out, ⟨b1.cell 0, b1.cell 1, b1.cell 2, b1.cell 3⟩, ⟨b2.cell 0, b2.cell 1, b2.cell 2, b2.cell 3⟩⟩
        · go_simp
          refine hK.out _ _ (Or.inl (hWd.alloc hWd.size _)) ?_
          clear hK
          refine wpAnyS_one 10 rfl (by kernel_rfl) (fun KK hK => ?_)
          go_simp
          refine hK.out _ _ (Or.inl ((hWd.alloc hWd.size _).alloc (by have := hWd.size; simp; omega) _)) ?_
          clear hK
          refine wpAnyS_one 12 rfl (by kernel_rfl) (fun KK hK => ?_)
          go_simp
          refine hK.out _ _ (Or.inl ((hWd.alloc hWd.size _).alloc (by have := hWd.size; simp; omega) _)) ?_
          clear hK
          refine wpAnyS_one 13 rfl (by kernel_rfl) (fun KK hK => ?_)
          go_simp
          refine hK.out _ _ (Or.inl ((hWd.alloc hWd.size _).alloc (by have := hWd.size; simp; omega) _)) ?_
          clear hK
          refine wpAnyS_end (by kernel_rfl) ?_
          have hbb := (hWd.alloc hWd.size (.cells #[.string ⟨y.fn.name.toArray⟩, .int .i64 y.fn.params, .int .i64 y.fn.vars, .slice D nd dc] 63)).alloc (by have := hWd.size; simp; omega) (.cells #[.string ⟨x.fn.name.toArray⟩, .int .i64 x.fn.params, .int .i64 x.fn.vars, .slice C nc cc] 63)
          have b1 := (Blk.new Wd 63 #[.string ⟨y.fn.name.toArray⟩, .int .i64 y.fn.params, .int .i64 y.fn.vars, .slice D nd dc]).alloc (.cells #[.string ⟨x.fn.name.toArray⟩, .int .i64 x.fn.params, .int .i64 x.fn.vars, .slice C nc cc] 63)
          have b2 := Blk.new (Wd.alloc (.cells #[.string ⟨y.fn.name.toArray⟩, .int .i64 y.fn.params, .int .i64 y.fn.vars, .slice D nd dc] 63)) 63 #[.string ⟨x.fn.name.toArray⟩, .int .i64 x.fn.params, .int .i64 x.fn.vars, .slice C nc cc]
          have hsz : Wd.heap.size = wr.heap.size := by rw [hWh]
          simp only [World.size_alloc] at b2
          rw [hsz] at b1 b2
          obtain ⟨W2, hW2⟩ : ∃ W2, W2 = (Wd.alloc (.cells #[.string ⟨y.fn.name.toArray⟩, .int .i64 y.fn.params, .int .i64 y.fn.vars, .slice D nd dc] 63)).alloc (.cells #[.string ⟨x.fn.name.toArray⟩, .int .i64 x.fn.params, .int .i64 x.fn.vars, .slice C nc cc] 63) := ⟨_, rfl⟩
          rw [← hW2] at b1 b2 hbb ⊢
          obtain ⟨a6, h7⟩ : ∃ a, a = wr.heap.size + 1 := ⟨_, rfl⟩
          obtain ⟨a7, h6⟩ : ∃ a, a = wr.heap.size := ⟨_, rfl⟩
          have HH := Lib.hid hbb
          clear hbb hW2
          rw [← h7] at b2 ⊢
          rw [← h6] at b1 ⊢
          exact KEY gf a6 a7 W2 ⟨HH.out, ⟨b2.cell 0, b2.cell 1, b2.cell 2, b2.cell 3⟩, ⟨b1.cell 0, b1.cell 1, b1.cell 2, b1.cell 3⟩⟩
        rintro gf p6 p7 W2 ⟨hw2, hx6, hy7⟩
        have HX6 := Lib.hid hx6; have HY7 := Lib.hid hy7; have HW2 := Lib.hid hw2
        clear hx6 hy7 hw2
        obtain ⟨tn, htn⟩ : ∃ b, b = !(x.fn.name == y.fn.name) := ⟨_, rfl⟩
        have Htn := Lib.hid htn; clear htn
        go_upto_region 7 with fail
        obtain ⟨jj0, hjj0⟩ : ∃ b : Bool, b = (tn || (x.fn.params != y.fn.params)) := ⟨_, rfl⟩
        have Hjj0 := Lib.hid hjj0; clear hjj0
        obtain ⟨jj1, hjj1⟩ : ∃ b : Bool, b = (jj0 || (x.fn.vars != y.fn.vars)) := ⟨_, rfl⟩
        have Hjj1 := Lib.hid hjj1; clear hjj1
        obtain ⟨jj2, hjj2⟩ : ∃ b : Bool, b = (jj1 || ((nc : Int) != (nd : Int))) := ⟨_, rfl⟩
        have Hjj2 := Lib.hid hjj2; clear hjj2
        refine wp_region_valsA [(none, .pointer (some ⟨p6, 0, none⟩)), (none, .string ⟨x.fn.name.toArray⟩), (none, .pointer (some ⟨p7, 0, none⟩)), (none, .string ⟨y.fn.name.toArray⟩), (none, .bool tn), (none, .bool tn), (some (53, false), gd tn false (.pointer (some ⟨p6, 1, none⟩))), (some (53, false), gd tn false (.int .i64 x.fn.params)), (some (53, false), gd tn false (.pointer (some ⟨p7, 1, none⟩))), (some (53, false), gd tn false (.int .i64 y.fn.params)), (some (53, false), gd tn false (.bool (x.fn.params != y.fn.params))), (none, .bool jj0), (none, .bool jj0), (some (60, false), gd jj0 false (.pointer (some ⟨p6, 2, none⟩))), (some (60, false), gd jj0 false (.int .i64 x.fn.vars)), (some (60, false), gd jj0 false (.pointer (some ⟨p7, 2, none⟩))), (some (60, false), gd jj0 false (.int .i64 y.fn.vars)), (some (60, false), gd jj0 false (.bool (x.fn.vars != y.fn.vars))), (none, .bool jj1), (none, .bool jj1), (some (67, false), gd jj1 false (.pointer (some ⟨p6, 3, none⟩))), (some (67, false), gd jj1 false (.slice C nc cc)), (some (67, false), gd jj1 false (.int .i64 (nc : Int))), (some (67, false), gd jj1 false (.pointer (some ⟨p7, 3, none⟩))), (some (67, false), gd jj1 false (.slice D nd dc)), (some (67, false), gd jj1 false (.int .i64 (nd : Int))), (some (67, false), gd jj1 false (.bool ((nc : Int) != (nd : Int)))), (none, .bool jj2)] mixed (by kernel_rfl) ?_
        intro FF AA hA hF
        have hL : HasL FF [(6, .pointer (some ⟨p6, 0, none⟩)), (7, .pointer (some ⟨p7, 0, none⟩)), (48, .pointer (some ⟨p6, 0, none⟩)), (49, .string ⟨x.fn.name.toArray⟩), (50, .pointer (some ⟨p7, 0, none⟩)), (51, .string ⟨y.fn.name.toArray⟩), (52, .bool tn), (53, .bool tn), (54, gd tn false (.pointer (some ⟨p6, 1, none⟩))), (55, gd tn false (.int .i64 x.fn.params)), (56, gd tn false (.pointer (some ⟨p7, 1, none⟩))), (57, gd tn false (.int .i64 y.fn.params)), (58, gd tn false (.bool (x.fn.params != y.fn.params))), (59, .bool jj0), (60, .bool jj0), (61, gd jj0 false (.pointer (some ⟨p6, 2, none⟩))), (62, gd jj0 false (.int .i64 x.fn.vars)), (63, gd jj0 false (.pointer (some ⟨p7, 2, none⟩))), (64, gd jj0 false (.int .i64 y.fn.vars)), (65, gd jj0 false (.bool (x.fn.vars != y.fn.vars))), (66, .bool jj1), (67, .bool jj1), (68, gd jj1 false (.pointer (some ⟨p6, 3, none⟩))), (69, gd jj1 false (.slice C nc cc)), (70, gd jj1 false (.int .i64 (nc : Int))), (71, gd jj1 false (.pointer (some ⟨p7, 3, none⟩))), (72, gd jj1 false (.slice D nd dc)), (73, gd jj1 false (.int .i64 (nd : Int))), (74, gd jj1 false (.bool ((nc : Int) != (nd : Int)))), (75, .bool jj2)] := by unfold HasL; rw [hF, hA]; kernel_rfl
        have HF := Lib.hid hF; clear hF; have HA := Lib.hid hA; clear hA
        refine ⟨?_, ?_⟩
        · intro V hV
          repeat clear ‹∀ (a : Act) (w : World), Code.wp Tryz.prog _ _ a w → _›
          have gff := gd_ff
          have gtt := gd_tt
          exact
          ResL.cons (OpRes.val (by have a6 := hL.at 0 rfl; go_simp)) (
          ResL.cons (OpRes.val (by have a48 := hL.at 2 rfl; have kk := get_b hV HX6.out.c0; go_simp)) (
          ResL.cons (OpRes.val (by have a7 := hL.at 1 rfl; go_simp)) (
          ResL.cons (OpRes.val (by have a50 := hL.at 4 rfl; have kk := get_b hV HY7.out.c0; go_simp)) (
          ResL.cons (OpRes.val (by have a49 := hL.at 3 rfl; have a51 := hL.at 5 rfl; rw [Htn.out]; go_simp)) (
          ResL.cons (OpRes.val (by have a52 := hL.at 6 rfl; go_simp)) (
          ResL.cons (OpRes.gval (hL.at 7 rfl) (fun e0 => by have a6 := hL.at 0 rfl; subst e0; go_simp)) (
          ResL.cons (OpRes.gval (hL.at 7 rfl) (fun e0 => by have a54 := hL.at 8 rfl; have kk := get_b hV HX6.out.c1; subst e0; go_simp)) (
          ResL.cons (OpRes.gval (hL.at 7 rfl) (fun e0 => by have a7 := hL.at 1 rfl; subst e0; go_simp)) (
          ResL.cons (OpRes.gval (hL.at 7 rfl) (fun e0 => by have a56 := hL.at 10 rfl; have kk := get_b hV HY7.out.c1; subst e0; go_simp)) (
          ResL.cons (OpRes.gval (hL.at 7 rfl) (fun e0 => by have a55 := hL.at 9 rfl; have a57 := hL.at 11 rfl; subst e0; go_simp)) (
          ResL.cons (OpRes.val (by rw [Hjj0.out]; have a53 := hL.at 7 rfl; have a58 := hL.at 12 rfl; cases tn <;> go_simp)) (
          ResL.cons (OpRes.val (by have a59 := hL.at 13 rfl; go_simp)) (
          ResL.cons (OpRes.gval (hL.at 14 rfl) (fun e0 => by have a6 := hL.at 0 rfl; subst e0; go_simp)) (
          ResL.cons (OpRes.gval (hL.at 14 rfl) (fun e0 => by have a61 := hL.at 15 rfl; have kk := get_b hV HX6.out.c2; subst e0; go_simp)) (
          ResL.cons (OpRes.gval (hL.at 14 rfl) (fun e0 => by have a7 := hL.at 1 rfl; subst e0; go_simp)) (
          ResL.cons (OpRes.gval (hL.at 14 rfl) (fun e0 => by have a63 := hL.at 17 rfl; have kk := get_b hV HY7.out.c2; subst e0; go_simp)) (
          ResL.cons (OpRes.gval (hL.at 14 rfl) (fun e0 => by have a62 := hL.at 16 rfl; have a64 := hL.at 18 rfl; subst e0; go_simp)) (
          ResL.cons (OpRes.val (by rw [Hjj1.out]; have a60 := hL.at 14 rfl; have a65 := hL.at 19 rfl; cases jj0 <;> go_simp)) (
          ResL.cons (OpRes.val (by have a66 := hL.at 20 rfl; go_simp)) (
          ResL.cons (OpRes.gval (hL.at 21 rfl) (fun e0 => by have a6 := hL.at 0 rfl; subst e0; go_simp)) (
          ResL.cons (OpRes.gval (hL.at 21 rfl) (fun e0 => by have a68 := hL.at 22 rfl; have kk := get_b hV HX6.out.c3; subst e0; go_simp)) (
          ResL.cons (OpRes.gval (hL.at 21 rfl) (fun e0 => by have a69 := hL.at 23 rfl; subst e0; go_simp)) (
          ResL.cons (OpRes.gval (hL.at 21 rfl) (fun e0 => by have a7 := hL.at 1 rfl; subst e0; go_simp)) (
          ResL.cons (OpRes.gval (hL.at 21 rfl) (fun e0 => by have a71 := hL.at 25 rfl; have kk := get_b hV HY7.out.c3; subst e0; go_simp)) (
          ResL.cons (OpRes.gval (hL.at 21 rfl) (fun e0 => by have a72 := hL.at 26 rfl; subst e0; go_simp)) (
          ResL.cons (OpRes.gval (hL.at 21 rfl) (fun e0 => by have a70 := hL.at 24 rfl; have a73 := hL.at 27 rfl; subst e0; go_simp)) (
          ResL.cons (OpRes.val (by rw [Hjj2.out]; have a67 := hL.at 21 rfl; have a74 := hL.at 28 rfl; cases jj1 <;> go_simp)) (
          ResL.nil))))))))))))))))))))))))))))
        intro V hV
        clear hL
        obtain ⟨gv, hFF⟩ : ∃ gv : Nat → Value, FF = putL [(48, gv 48), (49, gv 49), (50, gv 50), (51, gv 51), (52, gv 52), (53, gv 53), (54, gv 54), (55, gv 55), (56, gv 56), (57, gv 57), (58, gv 58), (59, gv 59), (60, gv 60), (61, gv 61), (62, gv 62), (63, gv 63), (64, gv 64), (65, gv 65), (66, gv 66), (67, gv 67), (68, gv 68), (69, gv 69), (70, gv 70), (71, gv 71), (72, gv 72), (73, gv 73), (74, gv 74), (75, .bool jj2)] AA := ⟨fun k => FF.tmps.getD k undef, by rw [HF.out, HA.out]; kernel_rfl⟩
        clear HF
        rw [HA.out] at hFF; clear HA
        simp only [putL, Act.put, List.setIfInBounds_toArray, List.set_cons_zero, List.set_cons_succ] at hFF
        subst hFF
        refine wpList_nil ?_
        have HV2 := Lib.hid (HW2.out.trans (hV.mono HW2.out.size))
        have GX3 := Lib.hid (get_b hV HX6.out.c3); have GY3 := Lib.hid (get_b hV HY7.out.c3)
        have hcond : jj2 = !((x.fn.name == y.fn.name) && (x.fn.params == y.fn.params) && (x.fn.vars == y.fn.vars) && ((nc : Int) == (nd : Int))) := by
          have qjj0 := Hjj0.out; have qjj1 := Hjj1.out; have qjj2 := Hjj2.out
          subst qjj2 qjj1 qjj0
          rw [Htn.out]
          simp only [bne, Bool.not_and]
        have hxc : x.fn.code.length = nc := by rw [← HXE.out, List.length_map, HNC.out]
        have hyc : y.fn.code.length = nd := by rw [← HYE.out, List.length_map, HND.out]
        have hpx : p.fns[i]? = some x.fn := by rw [← HGE.out, List.getElem?_map, HX.out]; rfl
        have hqy : q.fns[i]? = some y.fn := by rw [← HHE.out, List.getElem?_map, HYY.out]; rfl
        have HXC := Lib.hid hxc; have HYC := Lib.hid hyc; have HPX := Lib.hid hpx; have HQY := Lib.hid hqy
        have HDIFF := Lib.hid (fun (hne : x.fn ≠ y.fn) => show res = false by
          rw [HE.out]
          refine decide_eq_false fun e => hne ?_
          have e1 := HPX.out
          rw [e, HQY.out] at e1
          injection e1 with e1
          exact e1.symm)
        clear hxc hyc hpx hqy
        cases hjj : jj2 with
        | true =>
          have HRR := Lib.hid (HDIFF.out (fun e => by
            have e2 := fnp_eq x.fn y.fn
            rw [decide_eq_true e] at e2
            have e3 : ((nc : Int) == (nd : Int)) = true := by
              have : nc = nd := by rw [← HXC.out, ← HYC.out, e]
              simp [this]
            rw [hjj, e3] at hcond
            revert e2 hcond
            cases (x.fn.name == y.fn.name) <;> cases (x.fn.params == y.fn.params) <;> cases (x.fn.vars == y.fn.vars) <;> simp))
          clear hcond hjj hV HDIFF
          go_wp2_with fail
          go_ret
          exact ⟨ret_b HRR.out.symm, HWR.out.trans (HV2.out.mono HWR.out.size)⟩
        | false =>
          have hall : ((x.fn.name == y.fn.name) && (x.fn.params == y.fn.params) && (x.fn.vars == y.fn.vars)) = true ∧ nc = nd := by
            have h2 : ((x.fn.name == y.fn.name) && (x.fn.params == y.fn.params) && (x.fn.vars == y.fn.vars) && ((nc : Int) == (nd : Int))) = true := by
              rw [hjj] at hcond
              revert hcond
              cases ((x.fn.name == y.fn.name) && (x.fn.params == y.fn.params) && (x.fn.vars == y.fn.vars) && ((nc : Int) == (nd : Int))) <;> simp
            rw [Bool.and_eq_true] at h2
            exact ⟨h2.1, by have := eq_of_beq h2.2; omega⟩
          obtain ⟨h1, rfl⟩ := hall
          have HH1 := Lib.hid h1
          have HFE := Lib.hid (show decide (x.fn = y.fn) = decide (x.fn.code = y.fn.code) by rw [fnp_eq, h1]; rfl)
          clear hcond hjj hV h1 HX6 HY7 Htn Hjj0 Hjj1 Hjj2
          go_wp2_with fail
          obtain ⟨ko, hko⟩ : ∃ ko, gk = ko + 1 := ⟨gk - 1, by omega⟩
          subst hko
          go_loopg [8] nc (fun gk v wr => ∃ j : Nat, j ≤ nc ∧ nc - j ≤ gk ∧ v = .int .i64 j ∧ Hid (Below V.heap.size V wr) ∧ Hid (x.fn.code.take j = y.fn.code.take j))
          case atStart => exact ⟨0, Nat.zero_le _, Nat.le_refl _, rfl, Lib.hid (Below.refl _ _), Lib.hid (by simp)⟩
          case round =>
            obtain ⟨j, hj, hgk2, rfl, HB3, HI3⟩ := hrel
            have e3 := get_b HB3.out GX3.out; have f3 := get_b HB3.out GY3.out
            have le := cell_lt' e3; have lf := cell_lt' f3
            by_cases hlj : j < nc
            case neg =>
              have q' : decide ((j : Int) < (nc : Int)) = false := decide_eq_false (by omega)
              have HI4 := Lib.hid (take_eq_take HI.out HPX.out (show q.fns[i]? = some x.fn by
                have e := HI3.out
                rw [List.take_of_length_le (by rw [HXC.out]; omega), List.take_of_length_le (by rw [HYC.out]; omega)] at e
                have e2 : x.fn = y.fn := of_decide_eq_true (by rw [HFE.out]; exact decide_eq_true e)
                rw [e2]; exact HQY.out))
              have hnlb := HNLB.out
              clear hgk2
              go_wp2_with fail
              go_roundg ko
              case measure => omega
              case rel => exact ⟨i + 1, by omega, by omega, by simp, Lib.hid (HB.out.trans ((HV2.out.trans (HB3.out.mono HV2.out.size)).mono HB.out.size)), HI4⟩
            case pos =>
              have q' : decide ((j : Int) < (nc : Int)) = true := decide_eq_true (by omega)
              obtain ⟨u, hu⟩ : ∃ u, x.l[j]? = some u := ⟨_, List.getElem?_eq_getElem (by rw [← HNC.out]; exact hlj)⟩
              obtain ⟨v, hv⟩ : ∃ u, y.l[j]? = some u := ⟨_, List.getElem?_eq_getElem (by rw [← HND.out]; exact hlj)⟩
              have hwz := HWR.out.trans ((HV2.out.trans (HB3.out.mono HV2.out.size)).mono HWR.out.size)
              obtain ⟨cb, co, hCe, hau⟩ : ∃ b o, C = some ⟨b, o, none⟩ ∧ insAt w b (o + j * 10) u := by
                rcases HCI.out with e | ⟨b, o, e, k⟩
                · rw [e] at hu; simp at hu
                · exact ⟨b, o, e, k j u hu⟩
              obtain ⟨db, dq, hDe, hav2⟩ : ∃ b o, D = some ⟨b, o, none⟩ ∧ insAt w b (o + j * 10) v := by
                rcases HDI.out with e | ⟨b, o, e, k⟩
                · rw [e] at hv; simp at hv
                · exact ⟨b, o, e, k j v hv⟩
              subst hCe; subst hDe
              have HU := Lib.hid (hau.below hwz); have HV3 := Lib.hid (hav2.below hwz)
              have hux : x.fn.code[j]? = some u.1 := by rw [← HXE.out, List.getElem?_map, hu]; rfl
              have hvy : y.fn.code[j]? = some v.1 := by rw [← HYE.out, List.getElem?_map, hv]; rfl
              obtain ⟨bu, hbu⟩ : ∃ b, b = decide (u.1 = v.1) := ⟨_, rfl⟩
              have hul : u.1.args.length ≤ 1000000 := Nat.le_trans ((TG.out.fn _ (List.mem_of_getElem? HPX.out)).args _ (List.mem_of_getElem? hux)) (by omega)
              have hcall := fun Y (hY : Below wr.heap.size wr Y) => rsame1 u v Y (HU.out.args.below hY) (HV3.out.args.below hY) hul
              rw [← hbu] at hcall
              unfold insV at hcall
              have HCALL := Lib.hid hcall; have HBU := Lib.hid hbu; have HUX := Lib.hid hux; have HVY := Lib.hid hvy; have HJJ := Lib.hid (show (j : Int) < (nc : Int) by omega)
              clear hu hv hau hav2 hux hvy hbu hcall hul hwz
              go_upto_region 12 with fail
              refine wp_region_valsA [(none, .pointer (some ⟨p6, 3, none⟩)), (none, .slice (some ⟨cb, co, none⟩) nc cc), (none, .int .i64 (j : Int)), (none, .pointer (some ⟨cb, co + j * 10, none⟩)), (none, .agg #[.int .u8 u.1.op, .int .i64 u.1.v, .int .i64 u.1.a, .int .i64 u.1.b, .int .i64 u.1.n, .int .u8 u.1.bin, u.2, .int .i64 u.1.f, .int .i64 u.1.arr, .int .i64 u.1.to]), (none, .pointer (some ⟨p7, 3, none⟩)), (none, .slice (some ⟨db, dq, none⟩) nc dc), (none, .int .i64 (j : Int)), (none, .pointer (some ⟨db, dq + j * 10, none⟩)), (none, .agg #[.int .u8 v.1.op, .int .i64 v.1.v, .int .i64 v.1.a, .int .i64 v.1.b, .int .i64 v.1.n, .int .u8 v.1.bin, v.2, .int .i64 v.1.f, .int .i64 v.1.arr, .int .i64 v.1.to]), (none, .bool bu), (none, .bool (!bu))] mixed (by kernel_rfl) ?_
              intro FF AA hA hF
              have hL : HasL FF [(6, .pointer (some ⟨p6, 0, none⟩)), (7, .pointer (some ⟨p7, 0, none⟩)), (8, .int .i64 (j : Int)), (83, .pointer (some ⟨p6, 3, none⟩)), (84, .slice (some ⟨cb, co, none⟩) nc cc), (85, .int .i64 (j : Int)), (86, .pointer (some ⟨cb, co + j * 10, none⟩)), (87, .agg #[.int .u8 u.1.op, .int .i64 u.1.v, .int .i64 u.1.a, .int .i64 u.1.b, .int .i64 u.1.n, .int .u8 u.1.bin, u.2, .int .i64 u.1.f, .int .i64 u.1.arr, .int .i64 u.1.to]), (88, .pointer (some ⟨p7, 3, none⟩)), (89, .slice (some ⟨db, dq, none⟩) nc dc), (90, .int .i64 (j : Int)), (91, .pointer (some ⟨db, dq + j * 10, none⟩)), (92, .agg #[.int .u8 v.1.op, .int .i64 v.1.v, .int .i64 v.1.a, .int .i64 v.1.b, .int .i64 v.1.n, .int .u8 v.1.bin, v.2, .int .i64 v.1.f, .int .i64 v.1.arr, .int .i64 v.1.to]), (93, .bool bu), (94, .bool (!bu))] := by unfold HasL; rw [hF, hA]; kernel_rfl
              have HF := Lib.hid hF; clear hF; have HA := Lib.hid hA; clear hA
              refine ⟨?_, ?_⟩
              · intro Y hY
                repeat clear ‹∀ (a : Act) (w : World), Code.wp Tryz.prog _ _ a w → _›
                have gff := gd_ff
                have gtt := gd_tt
                have hj0 := HJJ.out
                exact
                ResL.cons (OpRes.val (by have a6 := hL.at 0 rfl; go_simp)) (
                ResL.cons (OpRes.val (by have a83 := hL.at 3 rfl; have kk := get_b hY e3; go_simp)) (
                ResL.cons (OpRes.val (by have a8 := hL.at 2 rfl; go_simp)) (
                ResL.cons (OpRes.val (by have a84 := hL.at 4 rfl; have a85 := hL.at 5 rfl; go_simp)) (
                ResL.cons (OpRes.val (by have a86 := hL.at 6 rfl; have s0 := get_b hY HU.out.c0; have s1 := get_b hY HU.out.c1; have s2 := get_b hY HU.out.c2; have s3 := get_b hY HU.out.c3; have s4 := get_b hY HU.out.c4; have s5 := get_b hY HU.out.c5; have s6 := get_b hY HU.out.c6; have s7 := get_b hY HU.out.c7; have s8 := get_b hY HU.out.c8; have s9 := get_b hY HU.out.c9; go_simp)) (
                ResL.cons (OpRes.val (by have a7 := hL.at 1 rfl; go_simp)) (
                ResL.cons (OpRes.val (by have a88 := hL.at 8 rfl; have kk := get_b hY f3; go_simp)) (
                ResL.cons (OpRes.val (by have a8 := hL.at 2 rfl; go_simp)) (
                ResL.cons (OpRes.val (by have a89 := hL.at 9 rfl; have a90 := hL.at 10 rfl; go_simp)) (
                ResL.cons (OpRes.val (by have a91 := hL.at 11 rfl; have s0 := get_b hY HV3.out.c0; have s1 := get_b hY HV3.out.c1; have s2 := get_b hY HV3.out.c2; have s3 := get_b hY HV3.out.c3; have s4 := get_b hY HV3.out.c4; have s5 := get_b hY HV3.out.c5; have s6 := get_b hY HV3.out.c6; have s7 := get_b hY HV3.out.c7; have s8 := get_b hY HV3.out.c8; have s9 := get_b hY HV3.out.c9; go_simp)) (
                ResL.cons (OpRes.call 64 #[.agg #[.int .u8 u.1.op, .int .i64 u.1.v, .int .i64 u.1.a, .int .i64 u.1.b, .int .i64 u.1.n, .int .u8 u.1.bin, u.2, .int .i64 u.1.f, .int .i64 u.1.arr, .int .i64 u.1.to], .agg #[.int .u8 v.1.op, .int .i64 v.1.v, .int .i64 v.1.a, .int .i64 v.1.b, .int .i64 v.1.n, .int .u8 v.1.bin, v.2, .int .i64 v.1.f, .int .i64 v.1.arr, .int .i64 v.1.to]] (by have a87 := hL.at 7 rfl; have a92 := hL.at 12 rfl; go_simp) (HCALL.out Y hY)) (
                ResL.cons (OpRes.val (by have a93 := hL.at 13 rfl; go_simp)) (
                ResL.nil))))))))))))
              intro Y hY
              clear hL
              obtain ⟨gy, hFF⟩ : ∃ gy : Nat → Value, FF = putL [(83, gy 83), (84, gy 84), (85, gy 85), (86, gy 86), (87, gy 87), (88, gy 88), (89, gy 89), (90, gy 90), (91, gy 91), (92, gy 92), (93, gy 93), (94, .bool (!bu))] AA := ⟨fun k => FF.tmps.getD k undef, by rw [HF.out, HA.out]; kernel_rfl⟩
              clear HF
              rw [HA.out] at hFF; clear HA
              simp only [putL, Act.put, List.setIfInBounds_toArray, List.set_cons_zero, List.set_cons_succ] at hFF
              subst hFF
              refine wpList_nil ?_
              have HBY := Lib.hid (HB3.out.trans (hY.mono HB3.out.size)); clear hY
              cases hbuu : bu with
              | false =>
                have HRR := Lib.hid (HDIFF.out (fun e => by
                  have e1 := HUX.out
                  rw [e, HVY.out] at e1
                  injection e1 with e1
                  have := HBU.out
                  rw [hbuu] at this
                  exact of_decide_eq_false this.symm e1.symm))
                clear hbuu HCALL e3 f3 HDIFF
                go_wp2_with fail
                go_ret
                exact ⟨ret_b HRR.out.symm, HWR.out.trans ((HV2.out.trans (HBY.out.mono HV2.out.size)).mono HWR.out.size)⟩
              | true =>
                have HI5 := Lib.hid (take_eq_take HI3.out HUX.out (show y.fn.code[j]? = some u.1 by
                  have : u.1 = v.1 := of_decide_eq_true (by rw [← HBU.out, hbuu])
                  rw [this]; exact HVY.out))
                have hncb : nc ≤ 1000000 := by rw [← HXC.out]; exact (TG.out.fn _ (List.mem_of_getElem? HPX.out)).len
                clear hbuu HCALL e3 f3 HDIFF
                go_wp2_with fail
                cases gk with
                | zero => omega
                | succ gk =>
                  go_roundg gk
                  case measure => omega
                  case rel => exact ⟨j + 1, by omega, by omega, by simp, HBY, HI5⟩
end Go.Proofs.YtgdibfnpkcdiiaaGreatDoor

/- The law ThreeSame over any two programs made by hand. By an AI agent. -/
namespace Go.Proofs.YtgdibfnpkcdiiaaGreatDoor
open Go.RowKit

set_option maxRecDepth 100000 in
set_option maxHeartbeats 16000000 in
theorem threeSame_any (g h : PrG) (w : World) (hg : PrR w g) (hh : PrR w h) (ok : PrOk g.p) (ok2 : PrOk h.p) (tab : TabW w) (h0 : 0 < w.heap.size) :
    Calls Tryz.prog 4 #[prV g, prV h] w fun e w' => e = .returned (.bool true) ∧ Below w.heap.size w w' := by
  obtain ⟨p, av, fv, l⟩ := g
  obtain ⟨q, bv, gv, m⟩ := h
  have HG := Lib.hid hg; have HH := Lib.hid hh
  obtain ⟨⟨A, ca, hav, _, _⟩, ⟨F, cf, hfv, _, _⟩, _⟩ := hg
  obtain ⟨⟨B, cb, hbv, _, _⟩, ⟨G, cg, hgv, _, _⟩, _⟩ := hh
  dsimp only at hav hfv hbv hgv ok ok2
  subst hav; subst hfv; subst hbv; subst hgv
  have hfw := fun W (hW : Below w.heap.size w W) => few_any _ W (HG.out.below hW)
  have hfw2 := fun W (hW : Below w.heap.size w W) => few_any _ W (HH.out.below hW)
  have hpl := fun tg W (hW : Below w.heap.size w W) => plain_any _ W (HG.out.below hW) tg
  have hpl2 := fun tg W (hW : Below w.heap.size w W) => plain_any _ W (HH.out.below hW) tg
  have hct := fun tg hl W (hW : Below w.heap.size w W) => text_any _ W (HG.out.below hW) tg hl (tab_keep tab hW h0) (Nat.lt_of_lt_of_le h0 hW.size)
  have hct2 := fun tg hl W (hW : Below w.heap.size w W) => text_any _ W (HH.out.below hW) tg hl (tab_keep tab hW h0) (Nat.lt_of_lt_of_le h0 hW.size)
  have hcs := fun tg th W (hW : Below w.heap.size w W) => same_any _ _ W (HG.out.below hW) (HH.out.below hW) tg th
  obtain ⟨nl, hnl⟩ : ∃ n, n = l.length := ⟨_, rfl⟩
  obtain ⟨nm, hnm⟩ : ∃ n, n = m.length := ⟨_, rfl⟩
  unfold prV at hfw hfw2 hpl hpl2 hct hct2 hcs ⊢
  dsimp only at hfw hfw2 hpl hpl2 hct hct2 hcs ⊢
  rw [← hnl] at hfw hpl hct hcs ⊢
  rw [← hnm] at hfw2 hpl2 hct2 hcs ⊢
  have HFW := Lib.hid hfw; have HFV := Lib.hid hfw2; have HPL := Lib.hid hpl; have HPM := Lib.hid hpl2; have HCT := Lib.hid hct; have HCU := Lib.hid hct2; have HCS := Lib.hid hcs; have OK := Lib.hid ok; have OL := Lib.hid ok2
  clear hfw hfw2 hpl hpl2 hct hct2 hcs ok ok2 hnl hnm
  go_enter Tryz.func4, Tryz.ntmps4
  go_upto_region 1 with fail
  have hb1 : Below w.heap.size w ((w.alloc (.cells #[.slice A p.arrays.length ca, .slice F nl cf, .int .i64 p.main] 25)).alloc (.cells #[.slice B q.arrays.length cb, .slice G nm cg, .int .i64 q.main] 25)) := ((Below.refl _ _).alloc (Nat.le_refl _) _).alloc (by simp) _
  have hbk := (Blk.new w 25 #[.slice A p.arrays.length ca, .slice F nl cf, .int .i64 p.main]).alloc (.cells #[.slice B q.arrays.length cb, .slice G nm cg, .int .i64 q.main] 25)
  have hbl := Blk.new (w.alloc (.cells #[.slice A p.arrays.length ca, .slice F nl cf, .int .i64 p.main] 25)) 25 #[.slice B q.arrays.length cb, .slice G nm cg, .int .i64 q.main]
  simp only [World.size_alloc] at hbl
  obtain ⟨W1, hW1⟩ : ∃ W1, W1 = (w.alloc (.cells #[.slice A p.arrays.length ca, .slice F nl cf, .int .i64 p.main] 25)).alloc (.cells #[.slice B q.arrays.length cb, .slice G nm cg, .int .i64 q.main] 25) := ⟨_, rfl⟩
  rw [← hW1] at hb1 hbk hbl ⊢
  clear hW1
  have HB1 := Lib.hid hb1; have HBK := Lib.hid hbk; have HBL := Lib.hid hbl
  have c0 := hbk.cell 0; have c1 := hbk.cell 1; have c2 := hbk.cell 2
  have d0 := hbl.cell 0; have d1 := hbl.cell 1; have d2 := hbl.cell 2
  have lb := hbk.lt
  have lb2 := hbl.lt
  clear hb1 hbk hbl
  go_wp2_with fail
  refine (HFW.out _ HB1.out).mono ?_
  rintro e w2 ⟨rfl, hb2⟩
  have HB2 := Lib.hid (below_next HB1.out hb2)
  have HBK2 := Lib.hid (HBK.out.below hb2); have HBL2 := Lib.hid (HBL.out.below hb2)
  clear hb2 c0 c1 c2 lb d0 d1 d2 lb2
  have c0 := HBK2.out.cell 0; have c1 := HBK2.out.cell 1; have c2 := HBK2.out.cell 2
  have d0 := HBL2.out.cell 0; have d1 := HBL2.out.cell 1; have d2 := HBL2.out.cell 2
  have lb := HBK2.out.lt
  have lb2 := HBL2.out.lt
  cases hf : fewW p with
  | false =>
    go_wp2_with fail
    refine (Ev.works_12_any _).mono ?_
    rintro e w3 ⟨rfl, hb3⟩
    have HF := Lib.hid (below_next HB2.out hb3)
    clear hb3
    go_wp2_with fail
    go_ret
    exact ⟨rfl, HF.out⟩
  | true =>
  go_wp2_with fail
  refine (HFV.out _ HB2.out).mono ?_
  rintro e w3 ⟨rfl, hb3⟩
  have HB3 := Lib.hid (below_next HB2.out hb3)
  have HBK3 := Lib.hid (HBK2.out.below hb3); have HBL3 := Lib.hid (HBL2.out.below hb3)
  clear hb3 c0 c1 c2 lb d0 d1 d2 lb2
  cases hf2 : fewW q with
  | false =>
    go_wp2_with fail
    refine (Ev.works_12_any _).mono ?_
    rintro e w4 ⟨rfl, hb4⟩
    have HF := Lib.hid (below_next HB3.out hb4)
    clear hb4
    go_wp2_with fail
    go_ret
    exact ⟨rfl, HF.out⟩
  | true =>
    obtain ⟨ts, tg, tl⟩ := sides OK.out hf
    obtain ⟨us, th, ul⟩ := sides OL.out hf2
    have TG := Lib.hid tg; have TL := Lib.hid tl; have TH := Lib.hid th; have UL := Lib.hid ul
    clear ts tg tl us th ul hf hf2
    obtain ⟨W4, hW4⟩ : ∃ x, x = w3 := ⟨_, rfl⟩
    rw [← hW4] at HB3 HBK3 HBL3 ⊢
    clear hW4
    have K0 := Lib.hid (HBK3.out.cell 0); have K1 := Lib.hid (HBK3.out.cell 1); have K2 := Lib.hid (HBK3.out.cell 2)
    have L0 := Lib.hid (HBL3.out.cell 0); have L1 := Lib.hid (HBL3.out.cell 1); have L2 := Lib.hid (HBL3.out.cell 2)
    go_upto_region 3 with fail
    refine wp_region_float [some (none, .agg #[.slice A p.arrays.length ca, .slice F nl cf, .int .i64 p.main]), none, some (none, .agg #[.slice B q.arrays.length cb, .slice G nm cg, .int .i64 q.main]), none, none, none] (fun W => Below W4.heap.size W4 W) 4 mixed (fun _ a a2 _ hd h => by cases a; cases a2; cases hd; exact h) (by kernel_rfl) (fun _ _ h => h) ?_
    intro FF AA Wd hA hF hWh hWd
    have hL : HasL FF [(2, .pointer (some ⟨w.heap.size, 0, none⟩)), (3, .pointer (some ⟨(w.heap.size + 1), 0, none⟩)), (15, .agg #[.slice A p.arrays.length ca, .slice F nl cf, .int .i64 p.main]), (17, .agg #[.slice B q.arrays.length cb, .slice G nm cg, .int .i64 q.main])] := by unfold HasL; rw [hF, hA]; kernel_rfl
    have HF := Lib.hid hF; clear hF; have HA := Lib.hid hA; clear hA
    refine ⟨?_, ?_⟩
    · intro Z hZ
      repeat clear ‹∀ (a : Act) (w : World), Code.wp Tryz.prog _ _ a w → _›
      have gff := gd_ff
      have gtt := gd_tt
      exact
      ResF.cons (FlRes.val (by have a2 := hL.at 0 rfl; have s0 := get_b hZ K0.out; have s1 := get_b hZ K1.out; have s2 := get_b hZ K2.out; go_simp)) (
      ResF.pass (
      ResF.cons (FlRes.val (by have a3 := hL.at 1 rfl; have s0 := get_b hZ L0.out; have s1 := get_b hZ L1.out; have s2 := get_b hZ L2.out; go_simp)) (
      ResF.pass (
      ResF.pass (
      ResF.pass (
      ResF.nil))))))
    clear hL
    obtain ⟨gf, hFF⟩ : ∃ gf : Nat → Value, FF = putL [(15, .agg #[.slice A p.arrays.length ca, .slice F nl cf, .int .i64 p.main]), (17, .agg #[.slice B q.arrays.length cb, .slice G nm cg, .int .i64 q.main])] AA := ⟨fun k => FF.tmps.getD k undef, by rw [HF.out, HA.out]; kernel_rfl⟩
    clear HF
    rw [HA.out] at hFF; clear HA
    simp only [putL, Act.put, List.setIfInBounds_toArray, List.set_cons_zero, List.set_cons_succ] at hFF
    subst hFF
    have HWD := Lib.hid hWd
    refine wpAnyS_one 1 rfl (by kernel_rfl) (fun KK hK => ?_)
    go_simp
    refine (HPL.out TG.out _ (below_next HB3.out HWD.out)).mono ?_
    rintro e w5 ⟨g2, rfl, hp2, he2, hb5⟩
    obtain ⟨p2, av2, fv2, l2⟩ := g2
    dsimp only at he2
    have HG2 := Lib.hid hp2; have HE2 := Lib.hid he2
    obtain ⟨⟨A2, ca2, hav2, _, _⟩, ⟨F2, cf2, hfv2, _, _⟩, _⟩ := hp2
    dsimp only at hav2 hfv2
    subst hav2; subst hfv2
    have HB5 := Lib.hid (below_next HWD.out hb5)
    clear hb5 he2
    dsimp only
    refine hK.out _ _ (Or.inl HB5.out) ?_
    clear hK
    refine wpAnyS_one 3 rfl (by kernel_rfl) (fun KK hK => ?_)
    go_simp
    refine (HPM.out TH.out _ (below_next HB3.out HB5.out)).mono ?_
    rintro e w6 ⟨g3, rfl, hp3, he3, hb6⟩
    obtain ⟨q2, bv2, gv2, m2⟩ := g3
    dsimp only at he3
    have HH2 := Lib.hid hp3; have HE3 := Lib.hid he3
    obtain ⟨⟨B2, cb2, hbv2, _, _⟩, ⟨G2, cg2, hgv2, _, _⟩, _⟩ := hp3
    dsimp only at hbv2 hgv2
    subst hbv2; subst hgv2
    have HB6 := Lib.hid (below_next HB5.out hb6)
    have HG3 := Lib.hid (HG2.out.below hb6)
    clear hb6 he3
    dsimp only
    refine hK.out _ _ (Or.inl HB6.out) ?_
    clear hK
    have hrs := rsame_any _ _ w6 HG3.out HH2.out (by rw [HE2.out]; exact TG.out) (by rw [HE3.out]; exact TH.out)
    unfold prV at hrs
    dsimp only at hrs
    rw [HE2.out, HE3.out] at hrs
    obtain ⟨s, hs⟩ : ∃ b, b = decide (p = q) := ⟨_, rfl⟩
    rw [← hs] at hrs
    have HS := Lib.hid hs; have HRS := Lib.hid hrs
    clear hrs hs
    refine wpAnyS_one 4 rfl (by kernel_rfl) (fun KK hK => ?_)
    go_simp
    rw [HE2.out, HE3.out]
    refine HRS.out.mono ?_
    rintro e w7 ⟨rfl, hb7⟩
    have HB7 := Lib.hid (below_next HB6.out hb7)
    clear hb7
    dsimp only
    refine hK.out _ _ (Or.inl HB7.out) ?_
    clear hK
    refine wpAnyS_one 5 rfl (by kernel_rfl) (fun KK hK => ?_)
    go_simp
    refine hK.out _ _ (Or.inl HB7.out) ?_
    clear hK
    refine wpAnyS_end (by kernel_rfl) ?_
    go_upto_region 4 with fail
    have HB8 := Lib.hid (below_next HB3.out HB7.out)
    have hbk := HBK3.out.below HB7.out; have hbl := HBL3.out.below HB7.out
    clear K0 K1 K2 L0 L1 L2
    have K0 := Lib.hid (hbk.cell 0); have K1 := Lib.hid (hbk.cell 1); have K2 := Lib.hid (hbk.cell 2)
    have L0 := Lib.hid (hbl.cell 0); have L1 := Lib.hid (hbl.cell 1); have L2 := Lib.hid (hbl.cell 2)
    have cs := fun W (hW : Below w7.heap.size w7 W) => HCS.out TG.out TH.out W (HB8.out.trans (hW.mono HB8.out.size))
    rw [← HS.out] at cs
    have ct := fun W (hW : Below w7.heap.size w7 W) => HCT.out TG.out TL.out W (HB8.out.trans (hW.mono HB8.out.size))
    have cu := fun W (hW : Below w7.heap.size w7 W) => HCU.out TH.out UL.out W (HB8.out.trans (hW.mono HB8.out.size))
    have CS := Lib.hid cs
    clear hbk hbl cs HPL HPM HCT HCU HCS HG HH HG2 HG3 HH2 HRS HFW HFV HBK HBL HBK2 HBL2 HBK3 HBL3 HB1 HB2 HB3 HB5 HB6 HB7 HWD
    cases s with
    | true =>
      have hpq : p = q := of_decide_eq_true HS.out.symm
      obtain ⟨tx, htx⟩ : ∃ b, b = textW p := ⟨_, rfl⟩
      have etx : textW q = textW p := by rw [hpq]
      rw [etx, ← htx] at cu
      rw [← htx] at ct
      have CT := Lib.hid ct; have CU := Lib.hid cu
      clear ct cu htx hpq etx
      have HRR := Lib.hid (show (true == true) = true from rfl)
      refine wp_region_valsA [(none, .agg #[.slice A p.arrays.length ca, .slice F nl cf, .int .i64 p.main]), (none, .agg #[.slice B q.arrays.length cb, .slice G nm cg, .int .i64 q.main]), (none, .bool true), (none, .bool true), (none, .bool true), (none, .bool true), (some (25, true), .bool true), (some (25, true), .bool false), (some (25, true), .bool false), (some (28, false), .agg #[.slice A p.arrays.length ca, .slice F nl cf, .int .i64 p.main]), (some (28, false), .string ⟨tx.toArray⟩), (some (28, false), .agg #[.slice B q.arrays.length cb, .slice G nm cg, .int .i64 q.main]), (some (28, false), .string ⟨tx.toArray⟩), (some (28, false), .bool true), (some (25, true), .bool true), (none, .bool true), (none, .bool true), (some (36, true), .bool true), (none, .bool true), (none, .bool true)] mixed (by kernel_rfl) ?_
      intro FF AA hA hF
      have hL : HasL FF [(2, .pointer (some ⟨w.heap.size, 0, none⟩)), (3, .pointer (some ⟨(w.heap.size + 1), 0, none⟩)), (5, .bool true), (20, .agg #[.slice A p.arrays.length ca, .slice F nl cf, .int .i64 p.main]), (21, .agg #[.slice B q.arrays.length cb, .slice G nm cg, .int .i64 q.main]), (22, .bool true), (23, .bool true), (24, .bool true), (25, .bool true), (26, .bool true), (27, .bool false), (28, .bool false), (29, .agg #[.slice A p.arrays.length ca, .slice F nl cf, .int .i64 p.main]), (30, .string ⟨tx.toArray⟩), (31, .agg #[.slice B q.arrays.length cb, .slice G nm cg, .int .i64 q.main]), (32, .string ⟨tx.toArray⟩), (33, .bool true), (34, .bool true), (35, .bool true), (36, .bool true), (37, .bool true), (38, .bool true), (4, .bool true)] := by unfold HasL; rw [hF, hA]; kernel_rfl
      have HF := Lib.hid hF; clear hF; have HA := Lib.hid hA; clear hA
      refine ⟨?_, ?_⟩
      · intro W hW
        repeat clear ‹∀ (a : Act) (w : World), Code.wp Tryz.prog _ _ a w → _›
        have gff := gd_ff
        have gtt := gd_tt
        exact
        ResL.cons (OpRes.val (by have a2 := hL.at 0 rfl; have s0 := get_b hW K0.out; have s1 := get_b hW K1.out; have s2 := get_b hW K2.out; go_simp)) (
        ResL.cons (OpRes.val (by have a3 := hL.at 1 rfl; have s0 := get_b hW L0.out; have s1 := get_b hW L1.out; have s2 := get_b hW L2.out; go_simp)) (
        ResL.cons (OpRes.call 18 #[.agg #[.slice A p.arrays.length ca, .slice F nl cf, .int .i64 p.main], .agg #[.slice B q.arrays.length cb, .slice G nm cg, .int .i64 q.main]] (by have a20 := hL.at 3 rfl; have a21 := hL.at 4 rfl; go_simp) (CS.out W hW)) (
        ResL.cons (OpRes.val (by have a5 := hL.at 2 rfl; go_simp)) (
        ResL.cons (OpRes.to (v := .bool (true == true)) (by rw [HRR.out]) (OpRes.val (by have a22 := hL.at 5 rfl; have a23 := hL.at 6 rfl; go_simp))) (
        ResL.cons (OpRes.val (by have a24 := hL.at 7 rfl; go_simp)) (
        ResL.cons (OpRes.goval (hL.at 8 rfl) (by have a5 := hL.at 2 rfl; go_simp)) (
        ResL.cons (OpRes.goval (hL.at 8 rfl) (by have a26 := hL.at 9 rfl; go_simp)) (
        ResL.cons (OpRes.goval (hL.at 8 rfl) (by have a27 := hL.at 10 rfl; go_simp)) (
        ResL.cons (OpRes.goval (hL.at 11 rfl) (by have a2 := hL.at 0 rfl; have s0 := get_b hW K0.out; have s1 := get_b hW K1.out; have s2 := get_b hW K2.out; go_simp)) (
        ResL.cons (OpRes.gocall 16 #[.agg #[.slice A p.arrays.length ca, .slice F nl cf, .int .i64 p.main]] (hL.at 11 rfl) (by have a29 := hL.at 12 rfl; go_simp) (CT.out W hW)) (
        ResL.cons (OpRes.goval (hL.at 11 rfl) (by have a3 := hL.at 1 rfl; have s0 := get_b hW L0.out; have s1 := get_b hW L1.out; have s2 := get_b hW L2.out; go_simp)) (
        ResL.cons (OpRes.gocall 16 #[.agg #[.slice B q.arrays.length cb, .slice G nm cg, .int .i64 q.main]] (hL.at 11 rfl) (by have a31 := hL.at 14 rfl; go_simp) (CU.out W hW)) (
        ResL.cons (OpRes.goval (hL.at 11 rfl) (by have a30 := hL.at 13 rfl; have a32 := hL.at 15 rfl; go_simp)) (
        ResL.cons (OpRes.goval (hL.at 8 rfl) (by have a28 := hL.at 11 rfl; have a33 := hL.at 16 rfl; go_simp)) (
        ResL.cons (OpRes.val (by have a25 := hL.at 8 rfl; have a34 := hL.at 17 rfl; go_simp)) (
        ResL.cons (OpRes.val (by have a35 := hL.at 18 rfl; go_simp)) (
        ResL.cons (OpRes.gocall 12 #[] (hL.at 19 rfl) (by go_simp) (Ev.works_12_any W)) (
        ResL.cons (OpRes.val (by have a36 := hL.at 19 rfl; have a37 := hL.at 20 rfl; go_simp)) (
        ResL.cons (OpRes.val (by have a38 := hL.at 21 rfl; go_simp)) (
        ResL.nil))))))))))))))))))))
      intro W hW
      clear hL
      obtain ⟨gg, hFF⟩ : ∃ gg : Nat → Value, FF = putL [(20, gg 20), (21, gg 21), (22, gg 22), (23, gg 23), (24, gg 24), (25, gg 25), (26, gg 26), (27, gg 27), (28, gg 28), (29, gg 29), (30, gg 30), (31, gg 31), (32, gg 32), (33, gg 33), (34, gg 34), (35, gg 35), (36, gg 36), (37, gg 37), (38, gg 38), (4, .bool true)] AA := ⟨fun k => FF.tmps.getD k undef, by rw [HF.out, HA.out]; kernel_rfl⟩
      clear HF
      rw [HA.out] at hFF; clear HA
      simp only [putL, Act.put, List.setIfInBounds_toArray, List.set_cons_zero, List.set_cons_succ] at hFF
      subst hFF
      refine wpList_nil ?_
      have HF := Lib.hid (HB8.out.trans (hW.mono HB8.out.size))
      clear hW
      go_wp2_with fail
      go_ret
      exact ⟨rfl, HF.out⟩
    | false =>
      clear ct cu
      have HRR := Lib.hid (show (false == false) = true from rfl)
      refine wp_region_valsA [(none, .agg #[.slice A p.arrays.length ca, .slice F nl cf, .int .i64 p.main]), (none, .agg #[.slice B q.arrays.length cb, .slice G nm cg, .int .i64 q.main]), (none, .bool false), (none, .bool false), (none, .bool true), (none, .bool true), (some (25, true), .bool false), (some (25, true), .bool true), (some (25, true), .bool true), (some (28, false), undef), (some (28, false), undef), (some (28, false), undef), (some (28, false), undef), (some (28, false), undef), (some (25, true), .bool true), (none, .bool true), (none, .bool true), (some (36, true), .bool true), (none, .bool true), (none, .bool true)] mixed (by kernel_rfl) ?_
      intro FF AA hA hF
      have hL : HasL FF [(2, .pointer (some ⟨w.heap.size, 0, none⟩)), (3, .pointer (some ⟨(w.heap.size + 1), 0, none⟩)), (5, .bool false), (20, .agg #[.slice A p.arrays.length ca, .slice F nl cf, .int .i64 p.main]), (21, .agg #[.slice B q.arrays.length cb, .slice G nm cg, .int .i64 q.main]), (22, .bool false), (23, .bool false), (24, .bool true), (25, .bool true), (26, .bool false), (27, .bool true), (28, .bool true), (29, undef), (30, undef), (31, undef), (32, undef), (33, undef), (34, .bool true), (35, .bool true), (36, .bool true), (37, .bool true), (38, .bool true), (4, .bool true)] := by unfold HasL; rw [hF, hA]; kernel_rfl
      have HF := Lib.hid hF; clear hF; have HA := Lib.hid hA; clear hA
      refine ⟨?_, ?_⟩
      · intro W hW
        repeat clear ‹∀ (a : Act) (w : World), Code.wp Tryz.prog _ _ a w → _›
        have gff := gd_ff
        have gtt := gd_tt
        exact
        ResL.cons (OpRes.val (by have a2 := hL.at 0 rfl; have s0 := get_b hW K0.out; have s1 := get_b hW K1.out; have s2 := get_b hW K2.out; go_simp)) (
        ResL.cons (OpRes.val (by have a3 := hL.at 1 rfl; have s0 := get_b hW L0.out; have s1 := get_b hW L1.out; have s2 := get_b hW L2.out; go_simp)) (
        ResL.cons (OpRes.call 18 #[.agg #[.slice A p.arrays.length ca, .slice F nl cf, .int .i64 p.main], .agg #[.slice B q.arrays.length cb, .slice G nm cg, .int .i64 q.main]] (by have a20 := hL.at 3 rfl; have a21 := hL.at 4 rfl; go_simp) (CS.out W hW)) (
        ResL.cons (OpRes.val (by have a5 := hL.at 2 rfl; go_simp)) (
        ResL.cons (OpRes.to (v := .bool (false == false)) (by rw [HRR.out]) (OpRes.val (by have a22 := hL.at 5 rfl; have a23 := hL.at 6 rfl; go_simp))) (
        ResL.cons (OpRes.val (by have a24 := hL.at 7 rfl; go_simp)) (
        ResL.cons (OpRes.goval (hL.at 8 rfl) (by have a5 := hL.at 2 rfl; go_simp)) (
        ResL.cons (OpRes.goval (hL.at 8 rfl) (by have a26 := hL.at 9 rfl; go_simp)) (
        ResL.cons (OpRes.goval (hL.at 8 rfl) (by have a27 := hL.at 10 rfl; go_simp)) (
        ResL.cons (OpRes.skip (hL.at 11 rfl) (rfl)) (
        ResL.cons (OpRes.skip (hL.at 11 rfl) (rfl)) (
        ResL.cons (OpRes.skip (hL.at 11 rfl) (rfl)) (
        ResL.cons (OpRes.skip (hL.at 11 rfl) (rfl)) (
        ResL.cons (OpRes.skip (hL.at 11 rfl) (rfl)) (
        ResL.cons (OpRes.goval (hL.at 8 rfl) (by have a28 := hL.at 11 rfl; have a33 := hL.at 16 rfl; go_simp)) (
        ResL.cons (OpRes.val (by have a25 := hL.at 8 rfl; have a34 := hL.at 17 rfl; go_simp)) (
        ResL.cons (OpRes.val (by have a35 := hL.at 18 rfl; go_simp)) (
        ResL.cons (OpRes.gocall 12 #[] (hL.at 19 rfl) (by go_simp) (Ev.works_12_any W)) (
        ResL.cons (OpRes.val (by have a36 := hL.at 19 rfl; have a37 := hL.at 20 rfl; go_simp)) (
        ResL.cons (OpRes.val (by have a38 := hL.at 21 rfl; go_simp)) (
        ResL.nil))))))))))))))))))))
      intro W hW
      clear hL
      obtain ⟨gg, hFF⟩ : ∃ gg : Nat → Value, FF = putL [(20, gg 20), (21, gg 21), (22, gg 22), (23, gg 23), (24, gg 24), (25, gg 25), (26, gg 26), (27, gg 27), (28, gg 28), (29, gg 29), (30, gg 30), (31, gg 31), (32, gg 32), (33, gg 33), (34, gg 34), (35, gg 35), (36, gg 36), (37, gg 37), (38, gg 38), (4, .bool true)] AA := ⟨fun k => FF.tmps.getD k undef, by rw [HF.out, HA.out]; kernel_rfl⟩
      clear HF
      rw [HA.out] at hFF; clear HA
      simp only [putL, Act.put, List.setIfInBounds_toArray, List.set_cons_zero, List.set_cons_succ] at hFF
      subst hFF
      refine wpList_nil ?_
      have HF := Lib.hid (HB8.out.trans (hW.mono HB8.out.size))
      clear hW
      go_wp2_with fail
      go_ret
      exact ⟨rfl, HF.out⟩
end Go.Proofs.YtgdibfnpkcdiiaaGreatDoor
