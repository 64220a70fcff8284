/- Joint text: HRightA, HRightB, HRightC, HRightD, HNums. By an AI agent. -/
import Derived.Test.YtgdibfnpkcdiiaaGreatDoorJB
import Derived.Test.YtgdibfnpkcdiiaaGreatDoorJA
import Derived.Deep.DeepCutAuto
import Derived.Deep.AppendLies
/- Is a program right: the closures of three's Right. By an AI agent. -/
namespace Go.Proofs.YtgdibfnpkcdiiaaGreatDoor
open Go.RowKit

/-- Small enough, and its numbers those of bytes. -/
structure PrS (p : PrW) : Prop where
  arrays : p.arrays.length ≤ 1000000
  fns : p.fns.length ≤ 1000000
  code : ∀ f ∈ p.fns, f.code.length ≤ 1000000
  args : ∀ f ∈ p.fns, ∀ x ∈ f.code, x.args.length ≤ 1000000
  op : ∀ f ∈ p.fns, ∀ x ∈ f.code, x.op < 256
set_option maxHeartbeats 1000000 in
theorem far_any (n : Int) (w : World) : Calls Tryz.prog 43 #[.int .i64 n] w fun e w' => e = .returned (.bool (!decide (1 ≤ n ∧ n ≤ 4096))) ∧ Below w.heap.size w w' := by
  obtain ⟨r, hr⟩ : ∃ r, r = !decide (1 ≤ n ∧ n ≤ 4096) := ⟨_, rfl⟩
  rw [← hr]
  have HR := Lib.hid hr; clear hr
  by_cases h1 : n < 1
  · have q1 : decide (n < 1) = true := decide_eq_true h1
    go_enter Tryz.func43, Tryz.ntmps43
    go_wp2_with fail
    go_ret
    exact ⟨ret_b (by rw [HR.out, decide_eq_false (show ¬ (1 ≤ n ∧ n ≤ 4096) by omega)]; rfl), Below.refl _ _⟩
  · have q1 : decide (n < 1) = false := decide_eq_false h1
    by_cases h2 : 4096 < n
    · have q2 : decide (4096 < n) = true := decide_eq_true h2
      go_enter Tryz.func43, Tryz.ntmps43
      go_wp2_with fail
      go_ret
      exact ⟨ret_b (by rw [HR.out, decide_eq_false (show ¬ (1 ≤ n ∧ n ≤ 4096) by omega)]; rfl), Below.refl _ _⟩
    · have q2 : decide (4096 < n) = false := decide_eq_false h2
      go_enter Tryz.func43, Tryz.ntmps43
      go_wp2_with fail
      go_ret
      exact ⟨ret_b (by rw [HR.out, decide_eq_true (show 1 ≤ n ∧ n ≤ 4096 by omega)]; rfl), Below.refl _ _⟩
theorem enter43 (a : Value) (W : World) : (callFunc 43 #[a]).run Tryz.prog W = .ok (.enter 43 #[a]) W := by kernel_rfl
theorem enter45 (a p : Value) (W : World) : (callFunc 45 #[a, p]).run Tryz.prog W = .ok (.enter 45 #[a, p]) W := by kernel_rfl
theorem enter47 (a p q : Value) (W : World) : (callFunc 47 #[a, p, q]).run Tryz.prog W = .ok (.enter 47 #[a, p, q]) W := by kernel_rfl

/-- A program's cells in a block. -/
structure PrB (w : World) (b : Nat) (g : PrG) : Prop where
  c0 : w.cell? ⟨b, 0, none⟩ = some g.av
  c1 : w.cell? ⟨b, 1, none⟩ = some g.fv
  c2 : w.cell? ⟨b, 2, none⟩ = some (.int .i64 g.p.main)
structure FnB (w : World) (b : Nat) (g : FnG) : Prop where
  c0 : w.cell? ⟨b, 0, none⟩ = some (.string ⟨g.fn.name.toArray⟩)
  c1 : w.cell? ⟨b, 1, none⟩ = some (.int .i64 g.fn.params)
  c2 : w.cell? ⟨b, 2, none⟩ = some (.int .i64 g.fn.vars)
  c3 : w.cell? ⟨b, 3, none⟩ = some g.cv
theorem PrB.below {w w' : World} {b : Nat} {g : PrG} (h : PrB w b g) (hb : Below w.heap.size w w') : PrB w' b g := ⟨get_b hb h.c0, get_b hb h.c1, get_b hb h.c2⟩
theorem FnB.below {w w' : World} {b : Nat} {g : FnG} (h : FnB w b g) (hb : Below w.heap.size w w') : FnB w' b g := ⟨get_b hb h.c0, get_b hb h.c1, get_b hb h.c2, get_b hb h.c3⟩

set_option maxRecDepth 100000 in
set_option maxHeartbeats 4000000 in
theorem bad_any (g : PrG) (f : FnG) (x : InV) (bp bf : Nat) (w : World) (hg : PrR w g) (hf : InsV w f.cv f.l) (hfe : f.l.map (·.1) = f.fn.code) (hx : IntsV w x.2 x.1.args) (ho : x.1.op < 256) (hal : x.1.args.length ≤ 1000000) (kp : PrB w bp g) (kf : FnB w bf f) :
    Calls Tryz.prog 47 #[insV x, .pointer (some ⟨bp, 0, none⟩), .pointer (some ⟨bf, 0, none⟩)] w fun e w' => e = .returned (.bool (!oneW g.p f.fn x.1)) ∧ Below w.heap.size w w' := by
  obtain ⟨D, cd, hxv, hcd, hxr⟩ := hx
  have hb0 : Below w.heap.size w (w.alloc (.cells #[.int .u8 x.1.op, .int .i64 x.1.v, .int .i64 x.1.a, .int .i64 x.1.b, .int .i64 x.1.n, .int .u8 x.1.bin, .slice D x.1.args.length cd, .int .i64 x.1.f, .int .i64 x.1.arr, .int .i64 x.1.to] 71)) := (Below.refl _ _).alloc (Nat.le_refl _) _
  have hone := one_any g f x _ (hg.below hb0) (hf.below hb0) hfe (IntsV.below ⟨D, cd, hxv, hcd, hxr⟩ hb0) ho hal
  have kp2 := kp.below hb0; have kf2 := kf.below hb0
  obtain ⟨p0, p1, p2⟩ := kp2
  obtain ⟨f0, f1, f2, f3⟩ := kf2
  unfold prV fnV insV at hone
  unfold insV
  rw [hxv] at hone ⊢
  have HO := Lib.hid hone; have HB0 := Lib.hid hb0
  have lp := cell_lt' kp.c0; have lf := cell_lt' kf.c0
  clear hone hb0 hg hf hfe kp kf hxr hxv hcd
  generalize oneW g.p f.fn x.1 = res at HO ⊢
  generalize g.av = av at *; generalize g.fv = fv at *; generalize f.cv = cv at *
  go_enter Tryz.func47, Tryz.ntmps47
  go_wp2_with fail
  refine HO.out.mono ?_
  rintro e w1 ⟨rfl, hb1⟩
  have HB1 := Lib.hid (HB0.out.trans (hb1.mono (by simp)))
  clear hb1 p0 p1 p2 f0 f1 f2 f3
  go_wp2_with fail
  go_ret
  exact ⟨rfl, HB1.out⟩
end Go.Proofs.YtgdibfnpkcdiiaaGreatDoor

/- Is a program right (three's Right). By an AI agent. -/
namespace Go.Proofs.YtgdibfnpkcdiiaaGreatDoor
open Go.RowKit

theorem last_get {α : Type} {l : List α} {n : Nat} (h : l.length = n + 1) : l.getLast? = l[n]? := by
  rw [List.getLast?_eq_getElem?, h]; rfl
set_option maxRecDepth 100000 in
set_option maxHeartbeats 8000000 in
theorem fn_any (g : PrG) (f : FnG) (bp : Nat) (w : World) (hg : PrR w g) (hf : InsV w f.cv f.l) (hfe : f.l.map (·.1) = f.fn.code) (ho : ∀ x ∈ f.fn.code, x.op < 256 ∧ x.args.length ≤ 1000000) (hcl : f.fn.code.length ≤ 1000000) (kp : PrB w bp g) :
    Calls Tryz.prog 45 #[fnV f, .pointer (some ⟨bp, 0, none⟩)] w fun e w' => e = .returned (.bool (!fnW g.p f.fn)) ∧ Below w.heap.size w w' := by
  obtain ⟨fn, cv, il⟩ := f
  dsimp only at hf hfe ho hcl
  have hff := hf
  obtain ⟨C, cc, hcv, hcc, hir⟩ := hf
  subst hcv
  obtain ⟨nc, hnc⟩ : ∃ n, n = il.length := ⟨_, rfl⟩
  have hcode : fn.code.length = nc := by rw [← hfe, List.length_map, hnc]
  have hb0 : Below w.heap.size w (w.alloc (.cells #[.string ⟨fn.name.toArray⟩, .int .i64 fn.params, .int .i64 fn.vars, .slice C il.length cc] 67)) := (Below.refl _ _).alloc (Nat.le_refl _) _
  have hcon : ∀ W, Below w.heap.size w W → FnB W w.heap.size ⟨fn, .slice C il.length cc, il⟩ → Calls Tryz.prog 46 #[.slice C il.length cc, .func (.func 47) #[] #[.pointer (some ⟨bp, 0, none⟩), .pointer (some ⟨w.heap.size, 0, none⟩)]] W fun e w' => e = .returned (.bool (il.any fun x => !oneW g.p fn x.1)) ∧ Below W.heap.size W w' := by
    intro W hW hB
    refine con_ins _ il 47 _ _ W (fun x => !oneW g.p fn x.1) (InsV.below hff hW) (by rw [← hnc, ← hcode]; exact hcl) (fun a U => enter47 a _ _ U) (fun x hx U hU => ?_)
    have hxc : x.1 ∈ fn.code := by rw [← hfe]; exact List.mem_map.2 ⟨x, hx, rfl⟩
    have hWU := hW.trans (hU.mono hW.size)
    refine bad_any g ⟨fn, .slice C il.length cc, il⟩ x bp w.heap.size U (hg.below hWU) (hff.below hWU) hfe ?_ (ho _ hxc).1 (ho _ hxc).2 (kp.below hWU) (hB.below hU)
    obtain ⟨j, hj⟩ := List.mem_iff_getElem?.1 hx
    rcases hir with e | ⟨b, o, e, k⟩
    · rw [e] at hj; simp at hj
    · exact ((k j x hj).below hWU).args
  have hany : (il.any fun x => !oneW g.p fn x.1) = !(fn.code.all (oneW g.p fn)) := by
    rw [← hfe, List.all_map, ← List.not_all_eq_any_not]; rfl
  have hlast : ∀ k, nc = k + 1 → ∃ x, il[k]? = some x ∧ endsW fn = decide (x.1.op = 12) := by
    intro k hk
    have hkl : k < il.length := by omega
    refine ⟨il[k], List.getElem?_eq_getElem hkl, ?_⟩
    unfold endsW
    rw [last_get (by rw [hcode, hk]), ← hfe, List.getElem?_map, List.getElem?_eq_getElem hkl]
    rfl
  have hnone : nc = 0 → endsW fn = false := by
    intro h
    have : fn.code = [] := List.length_eq_zero_iff.1 (by rw [hcode, h])
    unfold endsW
    rw [this]; rfl
  have hres : fnW g.p fn = (decide (0 ≤ fn.params ∧ fn.params ≤ 6 ∧ fn.params ≤ fn.vars ∧ fn.vars ≤ 200 ∧ nc ≤ 8000) && endsW fn && !(il.any fun x => !oneW g.p fn x.1)) := by
    rw [hany, fnW, hcode, Bool.not_not]
  have hir0 : il = [] ∨ ∃ b o, C = some ⟨b, o, none⟩ ∧ ∀ i x, il[i]? = some x → insAt (w.alloc (.cells #[.string ⟨fn.name.toArray⟩, .int .i64 fn.params, .int .i64 fn.vars, .slice C il.length cc] 67)) b (o + i * 10) x := hir.imp id fun ⟨b, o, e, k⟩ => ⟨b, o, e, fun i y hy => (k i y hy).below hb0⟩
  unfold fnV
  dsimp only
  rw [← hnc] at hcon hb0 hir0 ⊢
  have HCON := Lib.hid hcon; have HLAST := Lib.hid hlast; have HNONE := Lib.hid hnone; have HB0 := Lib.hid hb0; have HIR := Lib.hid hir0; have HNC := Lib.hid hnc
  generalize (il.any fun x => !oneW g.p fn x.1) = bad at HCON hres
  generalize fnW g.p fn = res at hres ⊢
  have HR := Lib.hid hres
  have hncb : nc ≤ 1000000 := by rw [← hcode]; exact hcl
  have HNCB := Lib.hid hncb
  clear hcon hlast hnone hb0 hff hg hfe ho hcl kp hcc hir hir0 hnc hcode hany hres hncb
  obtain ⟨W0, hW0⟩ : ∃ W0, W0 = w.alloc (.cells #[.string ⟨fn.name.toArray⟩, .int .i64 fn.params, .int .i64 fn.vars, .slice C nc cc] 67) := ⟨_, rfl⟩
  have bb := Blk.new w 67 #[.string ⟨fn.name.toArray⟩, .int .i64 fn.params, .int .i64 fn.vars, .slice C nc cc]
  rw [← hW0] at bb HB0 HIR
  have c0 := bb.cell 0; have c1 := bb.cell 1; have c2 := bb.cell 2; have c3 := bb.cell 3
  simp only [List.getElem?_toArray, List.getElem?_cons_zero, List.getElem?_cons_succ] at c0 c1 c2 c3
  have C0 := Lib.hid c0; have C1 := Lib.hid c1; have C2 := Lib.hid c2; have C3 := Lib.hid c3
  clear bb c0 c1 c2 c3
  go_enter Tryz.func45, Tryz.ntmps45
  go_upto_region 1 with fail
  rw [← hW0]
  clear hW0
  by_cases hil : il = []
  case pos =>
    have h0 : nc = 0 := by rw [HNC.out, hil]; rfl
    have HE := Lib.hid (show res = false by rw [HR.out, HNONE.out h0]; simp)
    subst h0
    clear HCON HLAST HNONE
    obtain ⟨bb0, hbb0⟩ : ∃ b : Bool, b = (decide (fn.params < 0)) := ⟨_, rfl⟩
    have Hbb0 := Lib.hid hbb0; clear hbb0
    obtain ⟨bb1, hbb1⟩ : ∃ b : Bool, b = (bb0 || (decide (6 < fn.params))) := ⟨_, rfl⟩
    have Hbb1 := Lib.hid hbb1; clear hbb1
    obtain ⟨bb2, hbb2⟩ : ∃ b : Bool, b = (bb1 || (decide (fn.vars < fn.params))) := ⟨_, rfl⟩
    have Hbb2 := Lib.hid hbb2; clear hbb2
    obtain ⟨bb3, hbb3⟩ : ∃ b : Bool, b = (bb2 || (decide (200 < fn.vars))) := ⟨_, rfl⟩
    have Hbb3 := Lib.hid hbb3; clear hbb3
    obtain ⟨bb4, hbb4⟩ : ∃ b : Bool, b = (bb3 || (decide (8000 < (0 : Int)))) := ⟨_, rfl⟩
    have Hbb4 := Lib.hid hbb4; clear hbb4
    refine wp_region_vals [(none, .pointer (some ⟨w.heap.size, 1, none⟩)), (none, .int .i64 fn.params), (none, .bool (decide (fn.params < 0))), (none, .bool bb0), (some (7, false), gd bb0 false (.pointer (some ⟨w.heap.size, 1, none⟩))), (some (7, false), gd bb0 false (.int .i64 fn.params)), (some (7, false), gd bb0 false (.bool (decide (6 < fn.params)))), (none, .bool bb1), (none, .bool bb1), (some (12, false), gd bb1 false (.pointer (some ⟨w.heap.size, 2, none⟩))), (some (12, false), gd bb1 false (.int .i64 fn.vars)), (some (12, false), gd bb1 false (.pointer (some ⟨w.heap.size, 1, none⟩))), (some (12, false), gd bb1 false (.int .i64 fn.params)), (some (12, false), gd bb1 false (.bool (decide (fn.vars < fn.params)))), (none, .bool bb2), (none, .bool bb2), (some (19, false), gd bb2 false (.pointer (some ⟨w.heap.size, 2, none⟩))), (some (19, false), gd bb2 false (.int .i64 fn.vars)), (some (19, false), gd bb2 false (.bool (decide (200 < fn.vars)))), (none, .bool bb3), (none, .bool bb3), (some (24, false), gd bb3 false (.pointer (some ⟨w.heap.size, 3, none⟩))), (some (24, false), gd bb3 false (.slice C 0 cc)), (some (24, false), gd bb3 false (.int .i64 (0 : Int))), (some (24, false), gd bb3 false (.bool (decide (8000 < (0 : Int))))), (none, .bool bb4), (none, .bool bb4), (some (30, false), gd bb4 false (.pointer (some ⟨w.heap.size, 3, none⟩))), (some (30, false), gd bb4 false (.slice C 0 cc)), (some (30, false), gd bb4 false (.int .i64 (0 : Int))), (some (30, false), gd bb4 false (.bool ((0 : Int) == 0))), (none, .bool true), (none, .bool true), (some (36, false), undef), (some (36, false), undef), (some (36, false), undef), (some (36, false), undef), (some (36, false), undef), (some (36, false), undef), (some (36, false), undef), (some (36, false), undef), (some (36, false), undef), (some (36, false), undef), (none, .bool true)] mixed (by kernel_rfl) ?_
    intro FF hF
    have hL : HasL FF [(2, .pointer (some ⟨w.heap.size, 0, none⟩)), (4, .pointer (some ⟨w.heap.size, 1, none⟩)), (5, .int .i64 fn.params), (6, .bool (decide (fn.params < 0))), (7, .bool bb0), (8, gd bb0 false (.pointer (some ⟨w.heap.size, 1, none⟩))), (9, gd bb0 false (.int .i64 fn.params)), (10, gd bb0 false (.bool (decide (6 < fn.params)))), (11, .bool bb1), (12, .bool bb1), (13, gd bb1 false (.pointer (some ⟨w.heap.size, 2, none⟩))), (14, gd bb1 false (.int .i64 fn.vars)), (15, gd bb1 false (.pointer (some ⟨w.heap.size, 1, none⟩))), (16, gd bb1 false (.int .i64 fn.params)), (17, gd bb1 false (.bool (decide (fn.vars < fn.params)))), (18, .bool bb2), (19, .bool bb2), (20, gd bb2 false (.pointer (some ⟨w.heap.size, 2, none⟩))), (21, gd bb2 false (.int .i64 fn.vars)), (22, gd bb2 false (.bool (decide (200 < fn.vars)))), (23, .bool bb3), (24, .bool bb3), (25, gd bb3 false (.pointer (some ⟨w.heap.size, 3, none⟩))), (26, gd bb3 false (.slice C 0 cc)), (27, gd bb3 false (.int .i64 (0 : Int))), (28, gd bb3 false (.bool (decide (8000 < (0 : Int))))), (29, .bool bb4), (30, .bool bb4), (31, gd bb4 false (.pointer (some ⟨w.heap.size, 3, none⟩))), (32, gd bb4 false (.slice C 0 cc)), (33, gd bb4 false (.int .i64 (0 : Int))), (34, gd bb4 false (.bool ((0 : Int) == 0))), (35, .bool true), (36, .bool true), (37, undef), (38, undef), (39, undef), (40, undef), (41, undef), (42, undef), (43, undef), (44, undef), (45, undef), (46, undef), (47, .bool true)] := by unfold HasL; rw [hF]; kernel_rfl
    have HF := Lib.hid hF; clear hF
    refine ⟨?_, ?_⟩
    · intro W hW
      repeat clear ‹∀ (a : Act) (w : World), Code.wp Tryz.prog _ _ a w → _›
      have gff := gd_ff
      have gtt := gd_tt
      exact
      ResL.cons (OpRes.val (by have a2 := hL.at 0 rfl; go_simp)) (
      ResL.cons (OpRes.val (by have a4 := hL.at 1 rfl; have kk := get_b hW C1.out; go_simp)) (
      ResL.cons (OpRes.val (by have a5 := hL.at 2 rfl; go_simp)) (
      ResL.cons (OpRes.val (by rw [Hbb0.out]; have a6 := hL.at 3 rfl; go_simp)) (
      ResL.cons (OpRes.gval (hL.at 4 rfl) (fun e0 => by have a2 := hL.at 0 rfl; subst e0; go_simp)) (
      ResL.cons (OpRes.gval (hL.at 4 rfl) (fun e0 => by have a8 := hL.at 5 rfl; have kk := get_b hW C1.out; subst e0; go_simp)) (
      ResL.cons (OpRes.gval (hL.at 4 rfl) (fun e0 => by have a9 := hL.at 6 rfl; subst e0; go_simp)) (
      ResL.cons (OpRes.val (by rw [Hbb1.out]; have a7 := hL.at 4 rfl; have a10 := hL.at 7 rfl; cases bb0 <;> go_simp)) (
      ResL.cons (OpRes.val (by have a11 := hL.at 8 rfl; go_simp)) (
      ResL.cons (OpRes.gval (hL.at 9 rfl) (fun e0 => by have a2 := hL.at 0 rfl; subst e0; go_simp)) (
      ResL.cons (OpRes.gval (hL.at 9 rfl) (fun e0 => by have a13 := hL.at 10 rfl; have kk := get_b hW C2.out; subst e0; go_simp)) (
      ResL.cons (OpRes.gval (hL.at 9 rfl) (fun e0 => by have a2 := hL.at 0 rfl; subst e0; go_simp)) (
      ResL.cons (OpRes.gval (hL.at 9 rfl) (fun e0 => by have a15 := hL.at 12 rfl; have kk := get_b hW C1.out; subst e0; go_simp)) (
      ResL.cons (OpRes.gval (hL.at 9 rfl) (fun e0 => by have a14 := hL.at 11 rfl; have a16 := hL.at 13 rfl; subst e0; go_simp)) (
      ResL.cons (OpRes.val (by rw [Hbb2.out]; have a12 := hL.at 9 rfl; have a17 := hL.at 14 rfl; cases bb1 <;> go_simp)) (
      ResL.cons (OpRes.val (by have a18 := hL.at 15 rfl; go_simp)) (
      ResL.cons (OpRes.gval (hL.at 16 rfl) (fun e0 => by have a2 := hL.at 0 rfl; subst e0; go_simp)) (
      ResL.cons (OpRes.gval (hL.at 16 rfl) (fun e0 => by have a20 := hL.at 17 rfl; have kk := get_b hW C2.out; subst e0; go_simp)) (
      ResL.cons (OpRes.gval (hL.at 16 rfl) (fun e0 => by have a21 := hL.at 18 rfl; subst e0; go_simp)) (
      ResL.cons (OpRes.val (by rw [Hbb3.out]; have a19 := hL.at 16 rfl; have a22 := hL.at 19 rfl; cases bb2 <;> go_simp)) (
      ResL.cons (OpRes.val (by have a23 := hL.at 20 rfl; go_simp)) (
      ResL.cons (OpRes.gval (hL.at 21 rfl) (fun e0 => by have a2 := hL.at 0 rfl; subst e0; go_simp)) (
      ResL.cons (OpRes.gval (hL.at 21 rfl) (fun e0 => by have a25 := hL.at 22 rfl; have kk := get_b hW C3.out; subst e0; go_simp)) (
      ResL.cons (OpRes.gval (hL.at 21 rfl) (fun e0 => by have a26 := hL.at 23 rfl; subst e0; go_simp)) (
      ResL.cons (OpRes.gval (hL.at 21 rfl) (fun e0 => by have a27 := hL.at 24 rfl; subst e0; go_simp)) (
      ResL.cons (OpRes.val (by rw [Hbb4.out]; have a24 := hL.at 21 rfl; have a28 := hL.at 25 rfl; cases bb3 <;> go_simp)) (
      ResL.cons (OpRes.val (by have a29 := hL.at 26 rfl; go_simp)) (
      ResL.cons (OpRes.gval (hL.at 27 rfl) (fun e0 => by have a2 := hL.at 0 rfl; subst e0; go_simp)) (
      ResL.cons (OpRes.gval (hL.at 27 rfl) (fun e0 => by have a31 := hL.at 28 rfl; have kk := get_b hW C3.out; subst e0; go_simp)) (
      ResL.cons (OpRes.gval (hL.at 27 rfl) (fun e0 => by have a32 := hL.at 29 rfl; subst e0; go_simp)) (
      ResL.cons (OpRes.gval (hL.at 27 rfl) (fun e0 => by have a33 := hL.at 30 rfl; subst e0; go_simp)) (
      ResL.cons (OpRes.to (v := .bool (bb4 || ((0 : Int) == 0))) (by rw [(show (bb4 || ((0 : Int) == 0)) = true by simp)]) (OpRes.val (by have a30 := hL.at 27 rfl; have a34 := hL.at 31 rfl; cases bb4 <;> go_simp))) (
      ResL.cons (OpRes.val (by have a35 := hL.at 32 rfl; go_simp)) (
      ResL.cons (OpRes.skip (hL.at 33 rfl) (rfl)) (
      ResL.cons (OpRes.skip (hL.at 33 rfl) (rfl)) (
      ResL.cons (OpRes.skip (hL.at 33 rfl) (rfl)) (
      ResL.cons (OpRes.skip (hL.at 33 rfl) (rfl)) (
      ResL.cons (OpRes.skip (hL.at 33 rfl) (rfl)) (
      ResL.cons (OpRes.skip (hL.at 33 rfl) (rfl)) (
      ResL.cons (OpRes.skip (hL.at 33 rfl) (rfl)) (
      ResL.cons (OpRes.skip (hL.at 33 rfl) (rfl)) (
      ResL.cons (OpRes.skip (hL.at 33 rfl) (rfl)) (
      ResL.cons (OpRes.skip (hL.at 33 rfl) (rfl)) (
      ResL.cons (OpRes.val (by have a36 := hL.at 33 rfl; have a46 := hL.at 43 rfl; go_simp)) (
      ResL.nil))))))))))))))))))))))))))))))))))))))))))))
    intro W hW
    clear hL
    obtain ⟨gg, hFF⟩ : ∃ gg : Nat → Value, FF = ⟨List.toArray (gg 0 :: .pointer (some ⟨bp, 0, none⟩) :: .pointer (some ⟨w.heap.size, 0, none⟩) :: .bool false :: gg 4 :: gg 5 :: gg 6 :: gg 7 :: gg 8 :: gg 9 :: gg 10 :: gg 11 :: gg 12 :: gg 13 :: gg 14 :: gg 15 :: gg 16 :: gg 17 :: gg 18 :: gg 19 :: gg 20 :: gg 21 :: gg 22 :: gg 23 :: gg 24 :: gg 25 :: gg 26 :: gg 27 :: gg 28 :: gg 29 :: gg 30 :: gg 31 :: gg 32 :: gg 33 :: gg 34 :: gg 35 :: gg 36 :: gg 37 :: gg 38 :: gg 39 :: gg 40 :: gg 41 :: gg 42 :: gg 43 :: gg 44 :: gg 45 :: gg 46 :: .bool true :: gg 48 :: gg 49 :: gg 50 :: gg 51 :: []), []⟩ := ⟨fun k => FF.tmps.getD k undef, by rw [HF.out]; kernel_rfl⟩
    clear HF
    subst hFF
    refine wpList_nil ?_
    have HV := Lib.hid (HB0.out.trans (hW.mono HB0.out.size))
    clear hW
    go_wp2_with fail
    go_ret
    exact ⟨ret_b (by rw [HE.out]; rfl), HV.out⟩
  case neg =>
    obtain ⟨k, hk⟩ : ∃ k, nc = k + 1 := ⟨nc - 1, by have := List.length_pos_iff.2 hil; rw [HNC.out]; omega⟩
    obtain ⟨y, hy, hend⟩ := HLAST.out k hk
    obtain ⟨cb, co, rfl, hat⟩ : ∃ b o, C = some ⟨b, o, none⟩ ∧ ∀ i x, il[i]? = some x → insAt W0 b (o + i * 10) x := by
      rcases HIR.out with e | ⟨b, o, e, k⟩
      · exact absurd e hil
      · exact ⟨b, o, e, k⟩
    have HY0 := Lib.hid (hat k y hy).c0
    have HK := Lib.hid (show (nc : Int) = (k : Int) + 1 by omega); have HEND := Lib.hid hend
    clear hil hk hy hend hat HLAST HNONE HIR
    obtain ⟨bb0, hbb0⟩ : ∃ b : Bool, b = (decide (fn.params < 0)) := ⟨_, rfl⟩
    have Hbb0 := Lib.hid hbb0; clear hbb0
    obtain ⟨bb1, hbb1⟩ : ∃ b : Bool, b = (bb0 || (decide (6 < fn.params))) := ⟨_, rfl⟩
    have Hbb1 := Lib.hid hbb1; clear hbb1
    obtain ⟨bb2, hbb2⟩ : ∃ b : Bool, b = (bb1 || (decide (fn.vars < fn.params))) := ⟨_, rfl⟩
    have Hbb2 := Lib.hid hbb2; clear hbb2
    obtain ⟨bb3, hbb3⟩ : ∃ b : Bool, b = (bb2 || (decide (200 < fn.vars))) := ⟨_, rfl⟩
    have Hbb3 := Lib.hid hbb3; clear hbb3
    obtain ⟨bb4, hbb4⟩ : ∃ b : Bool, b = (bb3 || (decide (8000 < (nc : Int)))) := ⟨_, rfl⟩
    have Hbb4 := Lib.hid hbb4; clear hbb4
    obtain ⟨bb5, hbb5⟩ : ∃ b : Bool, b = (bb4 || ((nc : Int) == 0)) := ⟨_, rfl⟩
    have Hbb5 := Lib.hid hbb5; clear hbb5
    obtain ⟨bb6, hbb6⟩ : ∃ b : Bool, b = (bb5 || ((y.1.op : Int) != 12)) := ⟨_, rfl⟩
    have Hbb6 := Lib.hid hbb6; clear hbb6
    refine wp_region_vals [(none, .pointer (some ⟨w.heap.size, 1, none⟩)), (none, .int .i64 fn.params), (none, .bool (decide (fn.params < 0))), (none, .bool bb0), (some (7, false), gd bb0 false (.pointer (some ⟨w.heap.size, 1, none⟩))), (some (7, false), gd bb0 false (.int .i64 fn.params)), (some (7, false), gd bb0 false (.bool (decide (6 < fn.params)))), (none, .bool bb1), (none, .bool bb1), (some (12, false), gd bb1 false (.pointer (some ⟨w.heap.size, 2, none⟩))), (some (12, false), gd bb1 false (.int .i64 fn.vars)), (some (12, false), gd bb1 false (.pointer (some ⟨w.heap.size, 1, none⟩))), (some (12, false), gd bb1 false (.int .i64 fn.params)), (some (12, false), gd bb1 false (.bool (decide (fn.vars < fn.params)))), (none, .bool bb2), (none, .bool bb2), (some (19, false), gd bb2 false (.pointer (some ⟨w.heap.size, 2, none⟩))), (some (19, false), gd bb2 false (.int .i64 fn.vars)), (some (19, false), gd bb2 false (.bool (decide (200 < fn.vars)))), (none, .bool bb3), (none, .bool bb3), (some (24, false), gd bb3 false (.pointer (some ⟨w.heap.size, 3, none⟩))), (some (24, false), gd bb3 false (.slice (some ⟨cb, co, none⟩) nc cc)), (some (24, false), gd bb3 false (.int .i64 (nc : Int))), (some (24, false), gd bb3 false (.bool (decide (8000 < (nc : Int))))), (none, .bool bb4), (none, .bool bb4), (some (30, false), gd bb4 false (.pointer (some ⟨w.heap.size, 3, none⟩))), (some (30, false), gd bb4 false (.slice (some ⟨cb, co, none⟩) nc cc)), (some (30, false), gd bb4 false (.int .i64 (nc : Int))), (some (30, false), gd bb4 false (.bool ((nc : Int) == 0))), (none, .bool bb5), (none, .bool bb5), (some (36, false), gd bb5 false (.pointer (some ⟨w.heap.size, 3, none⟩))), (some (36, false), gd bb5 false (.slice (some ⟨cb, co, none⟩) nc cc)), (some (36, false), gd bb5 false (.pointer (some ⟨w.heap.size, 3, none⟩))), (some (36, false), gd bb5 false (.slice (some ⟨cb, co, none⟩) nc cc)), (some (36, false), gd bb5 false (.int .i64 (nc : Int))), (some (36, false), gd bb5 false (.int .i64 (k : Int))), (some (36, false), gd bb5 false (.pointer (some ⟨cb, co + k * 10, none⟩))), (some (36, false), gd bb5 false (.pointer (some ⟨cb, co + k * 10, none⟩))), (some (36, false), gd bb5 false (.int .u8 (y.1.op : Int))), (some (36, false), gd bb5 false (.bool ((y.1.op : Int) != 12))), (none, .bool bb6)] mixed (by kernel_rfl) ?_
    intro FF hF
    have hL : HasL FF [(2, .pointer (some ⟨w.heap.size, 0, none⟩)), (4, .pointer (some ⟨w.heap.size, 1, none⟩)), (5, .int .i64 fn.params), (6, .bool (decide (fn.params < 0))), (7, .bool bb0), (8, gd bb0 false (.pointer (some ⟨w.heap.size, 1, none⟩))), (9, gd bb0 false (.int .i64 fn.params)), (10, gd bb0 false (.bool (decide (6 < fn.params)))), (11, .bool bb1), (12, .bool bb1), (13, gd bb1 false (.pointer (some ⟨w.heap.size, 2, none⟩))), (14, gd bb1 false (.int .i64 fn.vars)), (15, gd bb1 false (.pointer (some ⟨w.heap.size, 1, none⟩))), (16, gd bb1 false (.int .i64 fn.params)), (17, gd bb1 false (.bool (decide (fn.vars < fn.params)))), (18, .bool bb2), (19, .bool bb2), (20, gd bb2 false (.pointer (some ⟨w.heap.size, 2, none⟩))), (21, gd bb2 false (.int .i64 fn.vars)), (22, gd bb2 false (.bool (decide (200 < fn.vars)))), (23, .bool bb3), (24, .bool bb3), (25, gd bb3 false (.pointer (some ⟨w.heap.size, 3, none⟩))), (26, gd bb3 false (.slice (some ⟨cb, co, none⟩) nc cc)), (27, gd bb3 false (.int .i64 (nc : Int))), (28, gd bb3 false (.bool (decide (8000 < (nc : Int))))), (29, .bool bb4), (30, .bool bb4), (31, gd bb4 false (.pointer (some ⟨w.heap.size, 3, none⟩))), (32, gd bb4 false (.slice (some ⟨cb, co, none⟩) nc cc)), (33, gd bb4 false (.int .i64 (nc : Int))), (34, gd bb4 false (.bool ((nc : Int) == 0))), (35, .bool bb5), (36, .bool bb5), (37, gd bb5 false (.pointer (some ⟨w.heap.size, 3, none⟩))), (38, gd bb5 false (.slice (some ⟨cb, co, none⟩) nc cc)), (39, gd bb5 false (.pointer (some ⟨w.heap.size, 3, none⟩))), (40, gd bb5 false (.slice (some ⟨cb, co, none⟩) nc cc)), (41, gd bb5 false (.int .i64 (nc : Int))), (42, gd bb5 false (.int .i64 (k : Int))), (43, gd bb5 false (.pointer (some ⟨cb, co + k * 10, none⟩))), (44, gd bb5 false (.pointer (some ⟨cb, co + k * 10, none⟩))), (45, gd bb5 false (.int .u8 (y.1.op : Int))), (46, gd bb5 false (.bool ((y.1.op : Int) != 12))), (47, .bool bb6)] := by unfold HasL; rw [hF]; kernel_rfl
    have HF := Lib.hid hF; clear hF
    refine ⟨?_, ?_⟩
    · intro W hW
      repeat clear ‹∀ (a : Act) (w : World), Code.wp Tryz.prog _ _ a w → _›
      have gff := gd_ff
      have gtt := gd_tt
      have hncb := HNCB.out
      have hnk := HK.out
      have hkw : IntKind.i64.wrap (k : Int) = k := IntWalk.i64_in _ (by omega)
      have hkl : ¬ ((k : Int) + 1 ≤ k) := by omega
      exact
      ResL.cons (OpRes.val (by have a2 := hL.at 0 rfl; go_simp)) (
      ResL.cons (OpRes.val (by have a4 := hL.at 1 rfl; have kk := get_b hW C1.out; go_simp)) (
      ResL.cons (OpRes.val (by have a5 := hL.at 2 rfl; go_simp)) (
      ResL.cons (OpRes.val (by rw [Hbb0.out]; have a6 := hL.at 3 rfl; go_simp)) (
      ResL.cons (OpRes.gval (hL.at 4 rfl) (fun e0 => by have a2 := hL.at 0 rfl; subst e0; go_simp)) (
      ResL.cons (OpRes.gval (hL.at 4 rfl) (fun e0 => by have a8 := hL.at 5 rfl; have kk := get_b hW C1.out; subst e0; go_simp)) (
      ResL.cons (OpRes.gval (hL.at 4 rfl) (fun e0 => by have a9 := hL.at 6 rfl; subst e0; go_simp)) (
      ResL.cons (OpRes.val (by rw [Hbb1.out]; have a7 := hL.at 4 rfl; have a10 := hL.at 7 rfl; cases bb0 <;> go_simp)) (
      ResL.cons (OpRes.val (by have a11 := hL.at 8 rfl; go_simp)) (
      ResL.cons (OpRes.gval (hL.at 9 rfl) (fun e0 => by have a2 := hL.at 0 rfl; subst e0; go_simp)) (
      ResL.cons (OpRes.gval (hL.at 9 rfl) (fun e0 => by have a13 := hL.at 10 rfl; have kk := get_b hW C2.out; subst e0; go_simp)) (
      ResL.cons (OpRes.gval (hL.at 9 rfl) (fun e0 => by have a2 := hL.at 0 rfl; subst e0; go_simp)) (
      ResL.cons (OpRes.gval (hL.at 9 rfl) (fun e0 => by have a15 := hL.at 12 rfl; have kk := get_b hW C1.out; subst e0; go_simp)) (
      ResL.cons (OpRes.gval (hL.at 9 rfl) (fun e0 => by have a14 := hL.at 11 rfl; have a16 := hL.at 13 rfl; subst e0; go_simp)) (
      ResL.cons (OpRes.val (by rw [Hbb2.out]; have a12 := hL.at 9 rfl; have a17 := hL.at 14 rfl; cases bb1 <;> go_simp)) (
      ResL.cons (OpRes.val (by have a18 := hL.at 15 rfl; go_simp)) (
      ResL.cons (OpRes.gval (hL.at 16 rfl) (fun e0 => by have a2 := hL.at 0 rfl; subst e0; go_simp)) (
      ResL.cons (OpRes.gval (hL.at 16 rfl) (fun e0 => by have a20 := hL.at 17 rfl; have kk := get_b hW C2.out; subst e0; go_simp)) (
      ResL.cons (OpRes.gval (hL.at 16 rfl) (fun e0 => by have a21 := hL.at 18 rfl; subst e0; go_simp)) (
      ResL.cons (OpRes.val (by rw [Hbb3.out]; have a19 := hL.at 16 rfl; have a22 := hL.at 19 rfl; cases bb2 <;> go_simp)) (
      ResL.cons (OpRes.val (by have a23 := hL.at 20 rfl; go_simp)) (
      ResL.cons (OpRes.gval (hL.at 21 rfl) (fun e0 => by have a2 := hL.at 0 rfl; subst e0; go_simp)) (
      ResL.cons (OpRes.gval (hL.at 21 rfl) (fun e0 => by have a25 := hL.at 22 rfl; have kk := get_b hW C3.out; subst e0; go_simp)) (
      ResL.cons (OpRes.gval (hL.at 21 rfl) (fun e0 => by have a26 := hL.at 23 rfl; subst e0; go_simp)) (
      ResL.cons (OpRes.gval (hL.at 21 rfl) (fun e0 => by have a27 := hL.at 24 rfl; subst e0; go_simp)) (
      ResL.cons (OpRes.val (by rw [Hbb4.out]; have a24 := hL.at 21 rfl; have a28 := hL.at 25 rfl; cases bb3 <;> go_simp)) (
      ResL.cons (OpRes.val (by have a29 := hL.at 26 rfl; go_simp)) (
      ResL.cons (OpRes.gval (hL.at 27 rfl) (fun e0 => by have a2 := hL.at 0 rfl; subst e0; go_simp)) (
      ResL.cons (OpRes.gval (hL.at 27 rfl) (fun e0 => by have a31 := hL.at 28 rfl; have kk := get_b hW C3.out; subst e0; go_simp)) (
      ResL.cons (OpRes.gval (hL.at 27 rfl) (fun e0 => by have a32 := hL.at 29 rfl; subst e0; go_simp)) (
      ResL.cons (OpRes.gval (hL.at 27 rfl) (fun e0 => by have a33 := hL.at 30 rfl; subst e0; go_simp)) (
      ResL.cons (OpRes.val (by rw [Hbb5.out]; have a30 := hL.at 27 rfl; have a34 := hL.at 31 rfl; cases bb4 <;> go_simp)) (
      ResL.cons (OpRes.val (by have a35 := hL.at 32 rfl; go_simp)) (
      ResL.cons (OpRes.gval (hL.at 33 rfl) (fun e0 => by have a2 := hL.at 0 rfl; subst e0; go_simp)) (
      ResL.cons (OpRes.gval (hL.at 33 rfl) (fun e0 => by have a37 := hL.at 34 rfl; have kk := get_b hW C3.out; subst e0; go_simp)) (
      ResL.cons (OpRes.gval (hL.at 33 rfl) (fun e0 => by have a2 := hL.at 0 rfl; subst e0; go_simp)) (
      ResL.cons (OpRes.gval (hL.at 33 rfl) (fun e0 => by have a39 := hL.at 36 rfl; have kk := get_b hW C3.out; subst e0; go_simp)) (
      ResL.cons (OpRes.gval (hL.at 33 rfl) (fun e0 => by have a40 := hL.at 37 rfl; subst e0; go_simp)) (
      ResL.cons (OpRes.gval (hL.at 33 rfl) (fun e0 => by have a41 := hL.at 38 rfl; subst e0; go_simp)) (
      ResL.cons (OpRes.gval (hL.at 33 rfl) (fun e0 => by have a38 := hL.at 35 rfl; have a42 := hL.at 39 rfl; subst e0; go_simp)) (
      ResL.cons (OpRes.gval (hL.at 33 rfl) (fun e0 => by have a43 := hL.at 40 rfl; subst e0; go_simp)) (
      ResL.cons (OpRes.gval (hL.at 33 rfl) (fun e0 => by have a44 := hL.at 41 rfl; have kk := get_b hW HY0.out; subst e0; go_simp)) (
      ResL.cons (OpRes.gval (hL.at 33 rfl) (fun e0 => by have a45 := hL.at 42 rfl; subst e0; go_simp)) (
      ResL.cons (OpRes.val (by rw [Hbb6.out]; have a36 := hL.at 33 rfl; have a46 := hL.at 43 rfl; cases bb5 <;> go_simp)) (
      ResL.nil))))))))))))))))))))))))))))))))))))))))))))
    intro W hW
    clear hL
    obtain ⟨gg, hFF⟩ : ∃ gg : Nat → Value, FF = ⟨List.toArray (gg 0 :: .pointer (some ⟨bp, 0, none⟩) :: .pointer (some ⟨w.heap.size, 0, none⟩) :: .bool false :: gg 4 :: gg 5 :: gg 6 :: gg 7 :: gg 8 :: gg 9 :: gg 10 :: gg 11 :: gg 12 :: gg 13 :: gg 14 :: gg 15 :: gg 16 :: gg 17 :: gg 18 :: gg 19 :: gg 20 :: gg 21 :: gg 22 :: gg 23 :: gg 24 :: gg 25 :: gg 26 :: gg 27 :: gg 28 :: gg 29 :: gg 30 :: gg 31 :: gg 32 :: gg 33 :: gg 34 :: gg 35 :: gg 36 :: gg 37 :: gg 38 :: gg 39 :: gg 40 :: gg 41 :: gg 42 :: gg 43 :: gg 44 :: gg 45 :: gg 46 :: .bool bb6 :: gg 48 :: gg 49 :: gg 50 :: gg 51 :: []), []⟩ := ⟨fun k => FF.tmps.getD k undef, by rw [HF.out]; kernel_rfl⟩
    clear HF
    subst hFF
    refine wpList_nil ?_
    have HV := Lib.hid (HB0.out.trans (hW.mono HB0.out.size))
    have hcell : FnB W w.heap.size ⟨fn, .slice (some ⟨cb, co, none⟩) nc cc, il⟩ := ⟨get_b hW C0.out, get_b hW C1.out, get_b hW C2.out, get_b hW C3.out⟩
    have hcond : bb6 = !(decide (0 ≤ fn.params ∧ fn.params ≤ 6 ∧ fn.params ≤ fn.vars ∧ fn.vars ≤ 200 ∧ nc ≤ 8000) && endsW fn) := by
      have qbb0 := Hbb0.out; have qbb1 := Hbb1.out; have qbb2 := Hbb2.out; have qbb3 := Hbb3.out; have qbb4 := Hbb4.out; have qbb5 := Hbb5.out; have qbb6 := Hbb6.out
      subst qbb6 qbb5 qbb4 qbb3 qbb2 qbb1 qbb0
      rw [HEND.out]
      have hk := HK.out
      by_cases g1 : fn.params < 0
      · have : ¬ (0 ≤ fn.params ∧ fn.params ≤ 6 ∧ fn.params ≤ fn.vars ∧ fn.vars ≤ 200 ∧ nc ≤ 8000) := by omega
        simp [g1, this]
      · by_cases g2 : 6 < fn.params
        · have : ¬ (0 ≤ fn.params ∧ fn.params ≤ 6 ∧ fn.params ≤ fn.vars ∧ fn.vars ≤ 200 ∧ nc ≤ 8000) := by omega
          simp [g2, this]
        · by_cases g3 : fn.vars < fn.params
          · have : ¬ (0 ≤ fn.params ∧ fn.params ≤ 6 ∧ fn.params ≤ fn.vars ∧ fn.vars ≤ 200 ∧ nc ≤ 8000) := by omega
            simp [g3, this]
          · by_cases g4 : 200 < fn.vars
            · have : ¬ (0 ≤ fn.params ∧ fn.params ≤ 6 ∧ fn.params ≤ fn.vars ∧ fn.vars ≤ 200 ∧ nc ≤ 8000) := by omega
              simp [g4, this]
            · by_cases g5 : 8000 < (nc : Int)
              · have : ¬ (0 ≤ fn.params ∧ fn.params ≤ 6 ∧ fn.params ≤ fn.vars ∧ fn.vars ≤ 200 ∧ nc ≤ 8000) := by omega
                simp [g5, this]
              · have h5 : (0 ≤ fn.params ∧ fn.params ≤ 6 ∧ fn.params ≤ fn.vars ∧ fn.vars ≤ 200 ∧ nc ≤ 8000) := by omega
                have g6 : ((nc : Int) == 0) = false := by simp; omega
                have g7 : ((y.1.op : Int) != 12) = !decide (y.1.op = 12) := by
                  rw [bne, Bool.beq_eq_decide_eq]; congr 1; exact decide_eq_decide.2 (by omega)
                rw [decide_eq_false g1, decide_eq_false g2, decide_eq_false g3, decide_eq_false g4, decide_eq_false g5, decide_eq_true h5, g6, g7]
                simp
    cases hbb : bb6 with
    | true =>
      have HE := Lib.hid (show res = false by
        rw [hbb] at hcond
        rw [HR.out]
        revert hcond
        cases (decide (0 ≤ fn.params ∧ fn.params ≤ 6 ∧ fn.params ≤ fn.vars ∧ fn.vars ≤ 200 ∧ nc ≤ 8000) && endsW fn) <;> simp)
      clear hcond hbb hcell hW
      go_wp2_with fail
      go_ret
      exact ⟨ret_b (by rw [HE.out]; rfl), HV.out⟩
    | false =>
      have HE := Lib.hid (show res = !bad by
        rw [hbb] at hcond
        rw [HR.out]
        revert hcond
        cases (decide (0 ≤ fn.params ∧ fn.params ≤ 6 ∧ fn.params ≤ fn.vars ∧ fn.vars ≤ 200 ∧ nc ≤ 8000) && endsW fn) <;> simp)
      have k3 := hcell.c3
      have HC := Lib.hid (HCON.out W HV.out hcell)
      have lf := cell_lt' hcell.c0
      clear hcond hbb hcell hW HCON
      dsimp only at k3
      go_wp2_with fail
      refine HC.out.mono ?_
      rintro e w1 ⟨rfl, hb1⟩
      have HVV := Lib.hid (HV.out.trans (hb1.mono HV.out.size))
      clear hb1 k3
      go_wp2_with fail
      go_ret
      exact ⟨ret_b (by rw [HE.out]; simp), HVV.out⟩
end Go.Proofs.YtgdibfnpkcdiiaaGreatDoor

/- Is a program right (three's Right): the whole. By an AI agent. -/
namespace Go.Proofs.YtgdibfnpkcdiiaaGreatDoor
open Go.RowKit

set_option maxRecDepth 100000 in
set_option maxHeartbeats 8000000 in
theorem right_any (g : PrG) (w : World) (hg : PrR w g) (hs : PrS g.p) : Calls Tryz.prog 14 #[prV g] w fun e w' => e = .returned (.bool (rightW g.p)) ∧ Below w.heap.size w w' := by
  obtain ⟨p, av, fv, l⟩ := g
  have hgg := hg
  obtain ⟨ha, hfs, he⟩ := hg
  obtain ⟨A, ca, hav, hca, har⟩ := ha
  obtain ⟨F, cf, hfv, hcf, hfr⟩ := hfs
  dsimp only at hav hfv he hfr hca hcf har hs
  subst hav; subst hfv
  obtain ⟨na, hna⟩ : ∃ n, n = p.arrays.length := ⟨_, rfl⟩
  obtain ⟨nl, hnl⟩ : ∃ n, n = l.length := ⟨_, rfl⟩
  have hfl : p.fns.length = nl := by rw [← he, List.length_map, hnl]
  unfold prV
  dsimp only
  have hb0 : Below w.heap.size w (w.alloc (.cells #[.slice A p.arrays.length ca, .slice F l.length cf, .int .i64 p.main] 25)) := (Below.refl _ _).alloc (Nat.le_refl _) _
  have hcA : ∀ W, Below w.heap.size w W → Calls Tryz.prog 42 #[.slice A p.arrays.length ca, .func (.func 43) #[] #[]] W fun e w' => e = .returned (.bool (p.arrays.any fun n => !decide (1 ≤ n ∧ n ≤ 4096))) ∧ Below W.heap.size W w' := fun W hW =>
    con_ints _ p.arrays 43 W _ (IntsV.below hgg.arrays hW) hs.arrays (fun a U => enter43 a U) (fun x _ U _ => far_any x U)
  have hcF : ∀ W, Below w.heap.size w W → PrB W w.heap.size ⟨p, .slice A p.arrays.length ca, .slice F l.length cf, l⟩ → Calls Tryz.prog 44 #[.slice F l.length cf, .func (.func 45) #[] #[.pointer (some ⟨w.heap.size, 0, none⟩)]] W fun e w' => e = .returned (.bool (l.any fun f => !fnW p f.fn)) ∧ Below W.heap.size W w' := by
    intro W hW hB
    refine con_fns _ l 45 _ W (fun f => !fnW p f.fn) (FnsV.below hgg.fns hW) (by rw [← hnl, ← hfl]; exact hs.fns) (fun a U => enter45 a _ U) (fun f hf U hU => ?_)
    have hfc : f.fn ∈ p.fns := by rw [← he]; exact List.mem_map.2 ⟨f, hf, rfl⟩
    have hWU := hW.trans (hU.mono hW.size)
    obtain ⟨j, hj⟩ := List.mem_iff_getElem?.1 hf
    have hat : InsV w f.cv f.l ∧ f.l.map (·.1) = f.fn.code := by
      rcases hfr with e | ⟨b, o, e, k⟩
      · rw [e] at hj; simp at hj
      · exact ⟨(k j f hj).code, (k j f hj).eq⟩
    exact fn_any ⟨p, .slice A p.arrays.length ca, .slice F l.length cf, l⟩ f w.heap.size U (hgg.below hWU) (hat.1.below hWU) hat.2 (fun x hx => ⟨hs.op _ hfc x hx, hs.args _ hfc x hx⟩) (hs.code _ hfc) (hB.below hU)
  have hres : rightW p = (decide (na ≤ 16 ∧ nl ≤ 64) && mainW' p && !(p.arrays.any fun n => !decide (1 ≤ n ∧ n ≤ 4096)) && !(l.any fun f => !fnW p f.fn)) := by
    rw [rightW, ← hna, hfl]
    congr 1
    · congr 1
      rw [List.not_any_eq_all_not]; simp
    · rw [← he, List.all_map, List.not_any_eq_all_not]; simp; rfl
  have hmain : ∀ y, l[p.main.toNat]? = some y → 0 ≤ p.main → p.main < nl → mainW' p = decide (y.fn.params = 0) := by
    intro y hy h0 h1
    have : p.fns[p.main.toNat]? = some y.fn := by rw [← he, List.getElem?_map, hy]; rfl
    rw [mainW', this, decide_eq_true (by rw [hfl]; exact ⟨h0, h1⟩)]
    rfl
  have hmno : p.main < 0 ∨ (nl : Int) ≤ p.main → mainW' p = false := by
    intro h
    rw [mainW', decide_eq_false (by rw [hfl]; omega)]
    rfl
  have hfr0 : l = [] ∨ ∃ b o, F = some ⟨b, o, none⟩ ∧ ∀ i x, l[i]? = some x → fnAt (w.alloc (.cells #[.slice A p.arrays.length ca, .slice F l.length cf, .int .i64 p.main] 25)) b (o + i * 4) x := hfr.imp id fun ⟨b, o, e, k⟩ => ⟨b, o, e, fun i y hy => (k i y hy).below hb0⟩
  rw [← hnl] at hb0 hcF hfr0 ⊢
  rw [← hna] at hb0 hcA hcF hfr0 ⊢
  generalize (p.arrays.any fun n => !decide (1 ≤ n ∧ n ≤ 4096)) = badA at hres hcA
  generalize (l.any fun f => !fnW p f.fn) = badF at hres hcF
  generalize hmw : mainW' p = mw at hres hmain hmno
  generalize rightW p = res at hres ⊢
  have HCA := Lib.hid hcA; have HCF := Lib.hid hcF; have HR := Lib.hid hres; have HMAIN := Lib.hid hmain; have HMNO := Lib.hid hmno; have HFR := Lib.hid hfr0; have HNL := Lib.hid hnl; have HB0 := Lib.hid hb0
  clear hcA hcF hres hmain hmno hmw hfr0 hnl hb0 hgg hs hca hcf har hfr he hfl hna
  obtain ⟨W0, hW0⟩ : ∃ W0, W0 = w.alloc (.cells #[.slice A na ca, .slice F nl cf, .int .i64 p.main] 25) := ⟨_, rfl⟩
  have bb := Blk.new w 25 #[.slice A na ca, .slice F nl cf, .int .i64 p.main]
  rw [← hW0] at bb HB0 HFR
  have c0 := bb.cell 0; have c1 := bb.cell 1; have c2 := bb.cell 2
  simp only [List.getElem?_toArray, List.getElem?_cons_zero, List.getElem?_cons_succ] at c0 c1 c2
  have C0 := Lib.hid c0; have C1 := Lib.hid c1; have C2 := Lib.hid c2
  clear bb c0 c1 c2
  go_enter Tryz.func14, Tryz.ntmps14
  go_upto_region 1 with fail
  rw [← hW0]
  clear hW0
  by_cases hm : p.main < 0 ∨ (nl : Int) ≤ p.main
  case pos =>
    have HM := Lib.hid hm
    have HE := Lib.hid (show res = false by rw [HR.out, HMNO.out hm]; simp)
    clear hm HCA HCF HMAIN HMNO
    obtain ⟨bb0, hbb0⟩ : ∃ b : Bool, b = (decide (16 < (na : Int))) := ⟨_, rfl⟩
    have Hbb0 := Lib.hid hbb0; clear hbb0
    obtain ⟨bb1, hbb1⟩ : ∃ b : Bool, b = (bb0 || (decide (64 < (nl : Int)))) := ⟨_, rfl⟩
    have Hbb1 := Lib.hid hbb1; clear hbb1
    obtain ⟨bb2, hbb2⟩ : ∃ b : Bool, b = (bb1 || (decide (p.main < 0))) := ⟨_, rfl⟩
    have Hbb2 := Lib.hid hbb2; clear hbb2
    refine wp_region_vals [(none, .pointer (some ⟨w.heap.size, 0, none⟩)), (none, .slice A na ca), (none, .int .i64 (na : Int)), (none, .bool (decide (16 < (na : Int)))), (none, .bool bb0), (some (7, false), gd bb0 false (.pointer (some ⟨w.heap.size, 1, none⟩))), (some (7, false), gd bb0 false (.slice F nl cf)), (some (7, false), gd bb0 false (.int .i64 (nl : Int))), (some (7, false), gd bb0 false (.bool (decide (64 < (nl : Int))))), (none, .bool bb1), (none, .bool bb1), (some (13, false), gd bb1 false (.pointer (some ⟨w.heap.size, 2, none⟩))), (some (13, false), gd bb1 false (.int .i64 p.main)), (some (13, false), gd bb1 false (.bool (decide (p.main < 0)))), (none, .bool bb2), (none, .bool bb2), (some (18, false), gd bb2 false (.pointer (some ⟨w.heap.size, 2, none⟩))), (some (18, false), gd bb2 false (.int .i64 p.main)), (some (18, false), gd bb2 false (.pointer (some ⟨w.heap.size, 1, none⟩))), (some (18, false), gd bb2 false (.slice F nl cf)), (some (18, false), gd bb2 false (.int .i64 (nl : Int))), (some (18, false), gd bb2 false (.bool (decide ((nl : Int) ≤ p.main)))), (none, .bool true), (none, .bool true), (some (26, false), undef), (some (26, false), undef), (some (26, false), undef), (some (26, false), undef), (some (26, false), undef), (some (26, false), undef), (some (26, false), undef), (some (26, false), undef), (none, .bool true)] mixed (by kernel_rfl) ?_
    intro FF hF
    have hL : HasL FF [(1, .pointer (some ⟨w.heap.size, 0, none⟩)), (3, .pointer (some ⟨w.heap.size, 0, none⟩)), (4, .slice A na ca), (5, .int .i64 (na : Int)), (6, .bool (decide (16 < (na : Int)))), (7, .bool bb0), (8, gd bb0 false (.pointer (some ⟨w.heap.size, 1, none⟩))), (9, gd bb0 false (.slice F nl cf)), (10, gd bb0 false (.int .i64 (nl : Int))), (11, gd bb0 false (.bool (decide (64 < (nl : Int))))), (12, .bool bb1), (13, .bool bb1), (14, gd bb1 false (.pointer (some ⟨w.heap.size, 2, none⟩))), (15, gd bb1 false (.int .i64 p.main)), (16, gd bb1 false (.bool (decide (p.main < 0)))), (17, .bool bb2), (18, .bool bb2), (19, gd bb2 false (.pointer (some ⟨w.heap.size, 2, none⟩))), (20, gd bb2 false (.int .i64 p.main)), (21, gd bb2 false (.pointer (some ⟨w.heap.size, 1, none⟩))), (22, gd bb2 false (.slice F nl cf)), (23, gd bb2 false (.int .i64 (nl : Int))), (24, gd bb2 false (.bool (decide ((nl : Int) ≤ p.main)))), (25, .bool true), (26, .bool true), (27, undef), (28, undef), (29, undef), (30, undef), (31, undef), (32, undef), (33, undef), (34, undef), (35, .bool true)] := by unfold HasL; rw [hF]; kernel_rfl
    have HF := Lib.hid hF; clear hF
    refine ⟨?_, ?_⟩
    · intro W hW
      repeat clear ‹∀ (a : Act) (w : World), Code.wp Tryz.prog _ _ a w → _›
      have gff := gd_ff
      have gtt := gd_tt
      exact
      ResL.cons (OpRes.val (by have a1 := hL.at 0 rfl; go_simp)) (
      ResL.cons (OpRes.val (by have a3 := hL.at 1 rfl; have kk := get_b hW C0.out; go_simp)) (
      ResL.cons (OpRes.val (by have a4 := hL.at 2 rfl; go_simp)) (
      ResL.cons (OpRes.val (by have a5 := hL.at 3 rfl; go_simp)) (
      ResL.cons (OpRes.val (by rw [Hbb0.out]; have a6 := hL.at 4 rfl; go_simp)) (
      ResL.cons (OpRes.gval (hL.at 5 rfl) (fun e0 => by have a1 := hL.at 0 rfl; subst e0; go_simp)) (
      ResL.cons (OpRes.gval (hL.at 5 rfl) (fun e0 => by have a8 := hL.at 6 rfl; have kk := get_b hW C1.out; subst e0; go_simp)) (
      ResL.cons (OpRes.gval (hL.at 5 rfl) (fun e0 => by have a9 := hL.at 7 rfl; subst e0; go_simp)) (
      ResL.cons (OpRes.gval (hL.at 5 rfl) (fun e0 => by have a10 := hL.at 8 rfl; subst e0; go_simp)) (
      ResL.cons (OpRes.val (by rw [Hbb1.out]; have a7 := hL.at 5 rfl; have a11 := hL.at 9 rfl; cases bb0 <;> go_simp)) (
      ResL.cons (OpRes.val (by have a12 := hL.at 10 rfl; go_simp)) (
      ResL.cons (OpRes.gval (hL.at 11 rfl) (fun e0 => by have a1 := hL.at 0 rfl; subst e0; go_simp)) (
      ResL.cons (OpRes.gval (hL.at 11 rfl) (fun e0 => by have a14 := hL.at 12 rfl; have kk := get_b hW C2.out; subst e0; go_simp)) (
      ResL.cons (OpRes.gval (hL.at 11 rfl) (fun e0 => by have a15 := hL.at 13 rfl; subst e0; go_simp)) (
      ResL.cons (OpRes.val (by rw [Hbb2.out]; have a13 := hL.at 11 rfl; have a16 := hL.at 14 rfl; cases bb1 <;> go_simp)) (
      ResL.cons (OpRes.val (by have a17 := hL.at 15 rfl; go_simp)) (
      ResL.cons (OpRes.gval (hL.at 16 rfl) (fun e0 => by have a1 := hL.at 0 rfl; subst e0; go_simp)) (
      ResL.cons (OpRes.gval (hL.at 16 rfl) (fun e0 => by have a19 := hL.at 17 rfl; have kk := get_b hW C2.out; subst e0; go_simp)) (
      ResL.cons (OpRes.gval (hL.at 16 rfl) (fun e0 => by have a1 := hL.at 0 rfl; subst e0; go_simp)) (
      ResL.cons (OpRes.gval (hL.at 16 rfl) (fun e0 => by have a21 := hL.at 19 rfl; have kk := get_b hW C1.out; subst e0; go_simp)) (
      ResL.cons (OpRes.gval (hL.at 16 rfl) (fun e0 => by have a22 := hL.at 20 rfl; subst e0; go_simp)) (
      ResL.cons (OpRes.gval (hL.at 16 rfl) (fun e0 => by have a20 := hL.at 18 rfl; have a23 := hL.at 21 rfl; subst e0; go_simp)) (
      ResL.cons (OpRes.to (v := .bool (bb2 || (decide ((nl : Int) ≤ p.main)))) (by rw [(show (bb2 || (decide ((nl : Int) ≤ p.main))) = true by rw [Hbb2.out]; rcases HM.out with h | h <;> simp [h])]) (OpRes.val (by have a18 := hL.at 16 rfl; have a24 := hL.at 22 rfl; cases bb2 <;> go_simp))) (
      ResL.cons (OpRes.val (by have a25 := hL.at 23 rfl; go_simp)) (
      ResL.cons (OpRes.skip (hL.at 24 rfl) (rfl)) (
      ResL.cons (OpRes.skip (hL.at 24 rfl) (rfl)) (
      ResL.cons (OpRes.skip (hL.at 24 rfl) (rfl)) (
      ResL.cons (OpRes.skip (hL.at 24 rfl) (rfl)) (
      ResL.cons (OpRes.skip (hL.at 24 rfl) (rfl)) (
      ResL.cons (OpRes.skip (hL.at 24 rfl) (rfl)) (
      ResL.cons (OpRes.skip (hL.at 24 rfl) (rfl)) (
      ResL.cons (OpRes.skip (hL.at 24 rfl) (rfl)) (
      ResL.cons (OpRes.val (by have a26 := hL.at 24 rfl; have a34 := hL.at 32 rfl; go_simp)) (
      ResL.nil)))))))))))))))))))))))))))))))))
    intro W hW
    clear hL
    obtain ⟨gg, hFF⟩ : ∃ gg : Nat → Value, FF = ⟨List.toArray (gg 0 :: .pointer (some ⟨w.heap.size, 0, none⟩) :: .bool false :: gg 3 :: gg 4 :: gg 5 :: gg 6 :: gg 7 :: gg 8 :: gg 9 :: gg 10 :: gg 11 :: gg 12 :: gg 13 :: gg 14 :: gg 15 :: gg 16 :: gg 17 :: gg 18 :: gg 19 :: gg 20 :: gg 21 :: gg 22 :: gg 23 :: gg 24 :: gg 25 :: gg 26 :: gg 27 :: gg 28 :: gg 29 :: gg 30 :: gg 31 :: gg 32 :: gg 33 :: gg 34 :: .bool true :: gg 36 :: gg 37 :: gg 38 :: gg 39 :: gg 40 :: gg 41 :: gg 42 :: gg 43 :: []), []⟩ := ⟨fun k => FF.tmps.getD k undef, by rw [HF.out]; kernel_rfl⟩
    clear HF
    subst hFF
    refine wpList_nil ?_
    have HV := Lib.hid (HB0.out.trans (hW.mono HB0.out.size))
    clear hW
    go_wp2_with fail
    go_ret
    exact ⟨ret_b HE.out.symm, HV.out⟩
  case neg =>
    have hm0 : 0 ≤ p.main := by omega
    have hm1 : p.main < (nl : Int) := by omega
    obtain ⟨y, hy⟩ : ∃ y, l[p.main.toNat]? = some y := ⟨_, List.getElem?_eq_getElem (by rw [← HNL.out]; omega)⟩
    obtain ⟨fb, fo, rfl, hat⟩ : ∃ b o, F = some ⟨b, o, none⟩ ∧ ∀ i x, l[i]? = some x → fnAt W0 b (o + i * 4) x := by
      rcases HFR.out with e | ⟨b, o, e, k⟩
      · rw [e] at hy; simp at hy
      · exact ⟨b, o, e, k⟩
    have HY1 := Lib.hid (hat _ y hy).c1
    have HMW := Lib.hid (HMAIN.out y hy hm0 hm1)
    have HM0 := Lib.hid hm0; have HM1 := Lib.hid hm1
    clear hm hm0 hm1 hy hat HMAIN HMNO HFR
    obtain ⟨bb0, hbb0⟩ : ∃ b : Bool, b = (decide (16 < (na : Int))) := ⟨_, rfl⟩
    have Hbb0 := Lib.hid hbb0; clear hbb0
    obtain ⟨bb1, hbb1⟩ : ∃ b : Bool, b = (bb0 || (decide (64 < (nl : Int)))) := ⟨_, rfl⟩
    have Hbb1 := Lib.hid hbb1; clear hbb1
    obtain ⟨bb2, hbb2⟩ : ∃ b : Bool, b = (bb1 || (decide (p.main < 0))) := ⟨_, rfl⟩
    have Hbb2 := Lib.hid hbb2; clear hbb2
    obtain ⟨bb3, hbb3⟩ : ∃ b : Bool, b = (bb2 || (decide ((nl : Int) ≤ p.main))) := ⟨_, rfl⟩
    have Hbb3 := Lib.hid hbb3; clear hbb3
    obtain ⟨bb4, hbb4⟩ : ∃ b : Bool, b = (bb3 || (y.fn.params != 0)) := ⟨_, rfl⟩
    have Hbb4 := Lib.hid hbb4; clear hbb4
    refine wp_region_vals [(none, .pointer (some ⟨w.heap.size, 0, none⟩)), (none, .slice A na ca), (none, .int .i64 (na : Int)), (none, .bool (decide (16 < (na : Int)))), (none, .bool bb0), (some (7, false), gd bb0 false (.pointer (some ⟨w.heap.size, 1, none⟩))), (some (7, false), gd bb0 false (.slice (some ⟨fb, fo, none⟩) nl cf)), (some (7, false), gd bb0 false (.int .i64 (nl : Int))), (some (7, false), gd bb0 false (.bool (decide (64 < (nl : Int))))), (none, .bool bb1), (none, .bool bb1), (some (13, false), gd bb1 false (.pointer (some ⟨w.heap.size, 2, none⟩))), (some (13, false), gd bb1 false (.int .i64 p.main)), (some (13, false), gd bb1 false (.bool (decide (p.main < 0)))), (none, .bool bb2), (none, .bool bb2), (some (18, false), gd bb2 false (.pointer (some ⟨w.heap.size, 2, none⟩))), (some (18, false), gd bb2 false (.int .i64 p.main)), (some (18, false), gd bb2 false (.pointer (some ⟨w.heap.size, 1, none⟩))), (some (18, false), gd bb2 false (.slice (some ⟨fb, fo, none⟩) nl cf)), (some (18, false), gd bb2 false (.int .i64 (nl : Int))), (some (18, false), gd bb2 false (.bool (decide ((nl : Int) ≤ p.main)))), (none, .bool bb3), (none, .bool bb3), (some (26, false), gd bb3 false (.pointer (some ⟨w.heap.size, 1, none⟩))), (some (26, false), gd bb3 false (.slice (some ⟨fb, fo, none⟩) nl cf)), (some (26, false), gd bb3 false (.pointer (some ⟨w.heap.size, 2, none⟩))), (some (26, false), gd bb3 false (.int .i64 p.main)), (some (26, false), gd bb3 false (.pointer (some ⟨fb, fo + p.main.toNat * 4, none⟩))), (some (26, false), gd bb3 false (.pointer (some ⟨fb, fo + p.main.toNat * 4 + 1, none⟩))), (some (26, false), gd bb3 false (.int .i64 y.fn.params)), (some (26, false), gd bb3 false (.bool (y.fn.params != 0))), (none, .bool bb4)] mixed (by kernel_rfl) ?_
    intro FF hF
    have hL : HasL FF [(1, .pointer (some ⟨w.heap.size, 0, none⟩)), (3, .pointer (some ⟨w.heap.size, 0, none⟩)), (4, .slice A na ca), (5, .int .i64 (na : Int)), (6, .bool (decide (16 < (na : Int)))), (7, .bool bb0), (8, gd bb0 false (.pointer (some ⟨w.heap.size, 1, none⟩))), (9, gd bb0 false (.slice (some ⟨fb, fo, none⟩) nl cf)), (10, gd bb0 false (.int .i64 (nl : Int))), (11, gd bb0 false (.bool (decide (64 < (nl : Int))))), (12, .bool bb1), (13, .bool bb1), (14, gd bb1 false (.pointer (some ⟨w.heap.size, 2, none⟩))), (15, gd bb1 false (.int .i64 p.main)), (16, gd bb1 false (.bool (decide (p.main < 0)))), (17, .bool bb2), (18, .bool bb2), (19, gd bb2 false (.pointer (some ⟨w.heap.size, 2, none⟩))), (20, gd bb2 false (.int .i64 p.main)), (21, gd bb2 false (.pointer (some ⟨w.heap.size, 1, none⟩))), (22, gd bb2 false (.slice (some ⟨fb, fo, none⟩) nl cf)), (23, gd bb2 false (.int .i64 (nl : Int))), (24, gd bb2 false (.bool (decide ((nl : Int) ≤ p.main)))), (25, .bool bb3), (26, .bool bb3), (27, gd bb3 false (.pointer (some ⟨w.heap.size, 1, none⟩))), (28, gd bb3 false (.slice (some ⟨fb, fo, none⟩) nl cf)), (29, gd bb3 false (.pointer (some ⟨w.heap.size, 2, none⟩))), (30, gd bb3 false (.int .i64 p.main)), (31, gd bb3 false (.pointer (some ⟨fb, fo + p.main.toNat * 4, none⟩))), (32, gd bb3 false (.pointer (some ⟨fb, fo + p.main.toNat * 4 + 1, none⟩))), (33, gd bb3 false (.int .i64 y.fn.params)), (34, gd bb3 false (.bool (y.fn.params != 0))), (35, .bool bb4)] := by unfold HasL; rw [hF]; kernel_rfl
    have HF := Lib.hid hF; clear hF
    refine ⟨?_, ?_⟩
    · intro W hW
      repeat clear ‹∀ (a : Act) (w : World), Code.wp Tryz.prog _ _ a w → _›
      have gff := gd_ff
      have gtt := gd_tt
      have hm0 := HM0.out
      have hm1 := HM1.out
      exact
      ResL.cons (OpRes.val (by have a1 := hL.at 0 rfl; go_simp)) (
      ResL.cons (OpRes.val (by have a3 := hL.at 1 rfl; have kk := get_b hW C0.out; go_simp)) (
      ResL.cons (OpRes.val (by have a4 := hL.at 2 rfl; go_simp)) (
      ResL.cons (OpRes.val (by have a5 := hL.at 3 rfl; go_simp)) (
      ResL.cons (OpRes.val (by rw [Hbb0.out]; have a6 := hL.at 4 rfl; go_simp)) (
      ResL.cons (OpRes.gval (hL.at 5 rfl) (fun e0 => by have a1 := hL.at 0 rfl; subst e0; go_simp)) (
      ResL.cons (OpRes.gval (hL.at 5 rfl) (fun e0 => by have a8 := hL.at 6 rfl; have kk := get_b hW C1.out; subst e0; go_simp)) (
      ResL.cons (OpRes.gval (hL.at 5 rfl) (fun e0 => by have a9 := hL.at 7 rfl; subst e0; go_simp)) (
      ResL.cons (OpRes.gval (hL.at 5 rfl) (fun e0 => by have a10 := hL.at 8 rfl; subst e0; go_simp)) (
      ResL.cons (OpRes.val (by rw [Hbb1.out]; have a7 := hL.at 5 rfl; have a11 := hL.at 9 rfl; cases bb0 <;> go_simp)) (
      ResL.cons (OpRes.val (by have a12 := hL.at 10 rfl; go_simp)) (
      ResL.cons (OpRes.gval (hL.at 11 rfl) (fun e0 => by have a1 := hL.at 0 rfl; subst e0; go_simp)) (
      ResL.cons (OpRes.gval (hL.at 11 rfl) (fun e0 => by have a14 := hL.at 12 rfl; have kk := get_b hW C2.out; subst e0; go_simp)) (
      ResL.cons (OpRes.gval (hL.at 11 rfl) (fun e0 => by have a15 := hL.at 13 rfl; subst e0; go_simp)) (
      ResL.cons (OpRes.val (by rw [Hbb2.out]; have a13 := hL.at 11 rfl; have a16 := hL.at 14 rfl; cases bb1 <;> go_simp)) (
      ResL.cons (OpRes.val (by have a17 := hL.at 15 rfl; go_simp)) (
      ResL.cons (OpRes.gval (hL.at 16 rfl) (fun e0 => by have a1 := hL.at 0 rfl; subst e0; go_simp)) (
      ResL.cons (OpRes.gval (hL.at 16 rfl) (fun e0 => by have a19 := hL.at 17 rfl; have kk := get_b hW C2.out; subst e0; go_simp)) (
      ResL.cons (OpRes.gval (hL.at 16 rfl) (fun e0 => by have a1 := hL.at 0 rfl; subst e0; go_simp)) (
      ResL.cons (OpRes.gval (hL.at 16 rfl) (fun e0 => by have a21 := hL.at 19 rfl; have kk := get_b hW C1.out; subst e0; go_simp)) (
      ResL.cons (OpRes.gval (hL.at 16 rfl) (fun e0 => by have a22 := hL.at 20 rfl; subst e0; go_simp)) (
      ResL.cons (OpRes.gval (hL.at 16 rfl) (fun e0 => by have a20 := hL.at 18 rfl; have a23 := hL.at 21 rfl; subst e0; go_simp)) (
      ResL.cons (OpRes.val (by rw [Hbb3.out]; have a18 := hL.at 16 rfl; have a24 := hL.at 22 rfl; cases bb2 <;> go_simp)) (
      ResL.cons (OpRes.val (by have a25 := hL.at 23 rfl; go_simp)) (
      ResL.cons (OpRes.gval (hL.at 24 rfl) (fun e0 => by have a1 := hL.at 0 rfl; subst e0; go_simp)) (
      ResL.cons (OpRes.gval (hL.at 24 rfl) (fun e0 => by have a27 := hL.at 25 rfl; have kk := get_b hW C1.out; subst e0; go_simp)) (
      ResL.cons (OpRes.gval (hL.at 24 rfl) (fun e0 => by have a1 := hL.at 0 rfl; subst e0; go_simp)) (
      ResL.cons (OpRes.gval (hL.at 24 rfl) (fun e0 => by have a29 := hL.at 27 rfl; have kk := get_b hW C2.out; subst e0; go_simp)) (
      ResL.cons (OpRes.gval (hL.at 24 rfl) (fun e0 => by have a28 := hL.at 26 rfl; have a30 := hL.at 28 rfl; subst e0; go_simp)) (
      ResL.cons (OpRes.gval (hL.at 24 rfl) (fun e0 => by have a31 := hL.at 29 rfl; subst e0; go_simp)) (
      ResL.cons (OpRes.gval (hL.at 24 rfl) (fun e0 => by have a32 := hL.at 30 rfl; have kk := get_b hW HY1.out; subst e0; go_simp)) (
      ResL.cons (OpRes.gval (hL.at 24 rfl) (fun e0 => by have a33 := hL.at 31 rfl; subst e0; go_simp)) (
      ResL.cons (OpRes.val (by rw [Hbb4.out]; have a26 := hL.at 24 rfl; have a34 := hL.at 32 rfl; cases bb3 <;> go_simp)) (
      ResL.nil)))))))))))))))))))))))))))))))))
    intro W hW
    clear hL
    obtain ⟨gg, hFF⟩ : ∃ gg : Nat → Value, FF = ⟨List.toArray (gg 0 :: .pointer (some ⟨w.heap.size, 0, none⟩) :: .bool false :: gg 3 :: gg 4 :: gg 5 :: gg 6 :: gg 7 :: gg 8 :: gg 9 :: gg 10 :: gg 11 :: gg 12 :: gg 13 :: gg 14 :: gg 15 :: gg 16 :: gg 17 :: gg 18 :: gg 19 :: gg 20 :: gg 21 :: gg 22 :: gg 23 :: gg 24 :: gg 25 :: gg 26 :: gg 27 :: gg 28 :: gg 29 :: gg 30 :: gg 31 :: gg 32 :: gg 33 :: gg 34 :: .bool bb4 :: gg 36 :: gg 37 :: gg 38 :: gg 39 :: gg 40 :: gg 41 :: gg 42 :: gg 43 :: []), []⟩ := ⟨fun k => FF.tmps.getD k undef, by rw [HF.out]; kernel_rfl⟩
    clear HF
    subst hFF
    refine wpList_nil ?_
    have HV := Lib.hid (HB0.out.trans (hW.mono HB0.out.size))
    have hcell : PrB W w.heap.size ⟨p, .slice A na ca, .slice (some ⟨fb, fo, none⟩) nl cf, l⟩ := ⟨get_b hW C0.out, get_b hW C1.out, get_b hW C2.out⟩
    have hcond : bb4 = !(decide (na ≤ 16 ∧ nl ≤ 64) && mw) := by
      have qbb0 := Hbb0.out; have qbb1 := Hbb1.out; have qbb2 := Hbb2.out; have qbb3 := Hbb3.out; have qbb4 := Hbb4.out
      subst qbb4 qbb3 qbb2 qbb1 qbb0
      rw [HMW.out]
      have hm0 := HM0.out; have hm1 := HM1.out
      have e3 : decide (p.main < 0) = false := decide_eq_false (by omega)
      have e4 : decide ((nl : Int) ≤ p.main) = false := decide_eq_false (by omega)
      have e5 : (y.fn.params != 0) = !decide (y.fn.params = 0) := by rw [bne, Bool.beq_eq_decide_eq]
      rw [e3, e4, e5]
      by_cases g1 : (16 : Int) < (na : Int)
      · have : ¬ (na ≤ 16 ∧ nl ≤ 64) := by omega
        rw [decide_eq_true g1, decide_eq_false this]; simp
      · by_cases g2 : (64 : Int) < (nl : Int)
        · have : ¬ (na ≤ 16 ∧ nl ≤ 64) := by omega
          rw [decide_eq_true g2, decide_eq_false this]; simp
        · have : na ≤ 16 ∧ nl ≤ 64 := by omega
          rw [decide_eq_false g1, decide_eq_false g2, decide_eq_true this]; simp
    cases hbb : bb4 with
    | true =>
      have HE := Lib.hid (show res = false by
        rw [hbb] at hcond
        rw [HR.out]
        revert hcond
        cases (decide (na ≤ 16 ∧ nl ≤ 64) && mw) <;> simp)
      clear hcond hbb hcell hW HCA HCF
      go_wp2_with fail
      go_ret
      exact ⟨ret_b HE.out.symm, HV.out⟩
    | false =>
      have HE := Lib.hid (show res = (!badA && !badF) by
        rw [hbb] at hcond
        rw [HR.out]
        revert hcond
        cases (decide (na ≤ 16 ∧ nl ≤ 64) && mw) <;> simp)
      have HCELL := Lib.hid hcell
      have k0 := hcell.c0
      have lf := cell_lt' hcell.c0
      have HC := Lib.hid (HCA.out W HV.out)
      clear hcond hbb hcell hW HCA
      dsimp only at k0
      go_wp2_with fail
      refine HC.out.mono ?_
      rintro e w1 ⟨rfl, hb1⟩
      have HV1 := Lib.hid (HV.out.trans (hb1.mono HV.out.size))
      have hc1 := HCELL.out.below hb1
      have k1 := hc1.c1
      have lf1 : w.heap.size < w1.heap.size := cell_lt' hc1.c0
      have HC2 := Lib.hid (HCF.out w1 HV1.out hc1)
      clear hb1 k0 hc1 HCF HCELL HC lf
      dsimp only at k1
      cases badA with
      | true =>
        have HE2 := Lib.hid (show res = false by rw [HE.out]; rfl)
        clear HC2
        go_wp2_with fail
        go_ret
        exact ⟨ret_b HE2.out.symm, HV1.out⟩
      | false =>
        have HE2 := Lib.hid (show res = !badF by rw [HE.out]; rfl)
        go_wp2_with fail
        refine HC2.out.mono ?_
        rintro e w2 ⟨rfl, hb2⟩
        have HV2 := Lib.hid (HV1.out.trans (hb2.mono HV1.out.size))
        clear hb2 k1
        go_wp2_with fail
        go_ret
        exact ⟨ret_b HE2.out.symm, HV2.out⟩
end Go.Proofs.YtgdibfnpkcdiiaaGreatDoor

/- Is a program right, as the document says (Right). By an AI agent. -/
namespace Go.Proofs.YtgdibfnpkcdiiaaGreatDoor
open Go.RowKit

theorem take_any_no {α : Type} {l : List α} {b : α → Bool} {i : Nat} {y : α} (h : (l.take i).any b = false) (hy : l[i]? = some y) (hb : b y = false) : (l.take (i + 1)).any b = false := by
  rw [List.take_add_one, hy]
  simp [h, hb]
set_option maxRecDepth 100000 in
set_option maxHeartbeats 16000000 in
theorem rright_any (g : PrG) (w : World) (hg : PrR w g) (hs : PrS g.p) : Calls Tryz.prog 15 #[prV g] w fun e w' => e = .returned (.bool (rightW g.p)) ∧ Below w.heap.size w w' := by
  obtain ⟨p, av, fv, l⟩ := g
  have hgg := hg
  obtain ⟨ha, hfs, he⟩ := hg
  obtain ⟨A, ca, hav, hca, har⟩ := ha
  obtain ⟨F, cf, hfv, hcf, hfr⟩ := hfs
  dsimp only at hav hfv he hfr hca hcf har hs
  subst hav; subst hfv
  obtain ⟨na, hna⟩ : ∃ n, n = p.arrays.length := ⟨_, rfl⟩
  obtain ⟨nl, hnl⟩ : ∃ n, n = l.length := ⟨_, rfl⟩
  have hfl : p.fns.length = nl := by rw [← he, List.length_map, hnl]
  unfold prV
  dsimp only
  have hb0 : Below w.heap.size w (w.alloc (.cells #[.slice A p.arrays.length ca, .slice F l.length cf, .int .i64 p.main] 30)) := (Below.refl _ _).alloc (Nat.le_refl _) _
  have hres : rightW p = (decide (na ≤ 16 ∧ nl ≤ 64) && mainW' p && !(p.arrays.any fun n => !decide (1 ≤ n ∧ n ≤ 4096)) && !(l.any fun f => !fnW p f.fn)) := by
    rw [rightW, ← hna, hfl]
    congr 1
    · congr 1
      rw [List.not_any_eq_all_not]; simp
    · rw [← he, List.all_map, List.not_any_eq_all_not]; simp; rfl
  have hmain : ∀ y, l[p.main.toNat]? = some y → 0 ≤ p.main → p.main < nl → mainW' p = decide (y.fn.params = 0) := by
    intro y hy h0 h1
    have : p.fns[p.main.toNat]? = some y.fn := by rw [← he, List.getElem?_map, hy]; rfl
    rw [mainW', this, decide_eq_true (by rw [hfl]; exact ⟨h0, h1⟩)]
    rfl
  have hmno : p.main < 0 ∨ (nl : Int) ≤ p.main → mainW' p = false := by
    intro h
    rw [mainW', decide_eq_false (by rw [hfl]; omega)]
    rfl
  have hfr0 : l = [] ∨ ∃ b o, F = some ⟨b, o, none⟩ ∧ ∀ i x, l[i]? = some x → fnAt w b (o + i * 4) x := hfr
  have hone : ∀ (x : FnG) (u : InV) (W : World), x ∈ l → u ∈ x.l → Below w.heap.size w W → InsV w x.cv x.l → Calls Tryz.prog 49 #[.agg #[.slice A p.arrays.length ca, .slice F l.length cf, .int .i64 p.main], .agg #[.string ⟨x.fn.name.toArray⟩, .int .i64 x.fn.params, .int .i64 x.fn.vars, x.cv], insV u] W fun e w' => e = .returned (.bool (oneW p x.fn u.1)) ∧ Below W.heap.size W w' := by
    intro x u W hx hu hW hI
    have hfc : x.fn ∈ p.fns := by rw [← he]; exact List.mem_map.2 ⟨x, hx, rfl⟩
    obtain ⟨j, hj⟩ := List.mem_iff_getElem?.1 hx
    have hat : x.l.map (·.1) = x.fn.code := by
      rcases hfr with e | ⟨b, o, e, k⟩
      · rw [e] at hj; simp at hj
      · exact (k j x hj).eq
    have huc : u.1 ∈ x.fn.code := by rw [← hat]; exact List.mem_map.2 ⟨u, hu, rfl⟩
    obtain ⟨q, hq⟩ := List.mem_iff_getElem?.1 hu
    refine rone_any ⟨p, _, _, l⟩ x u W (hgg.below hW) (hI.below hW) hat ?_ (hs.args _ hfc _ huc)
    obtain ⟨C, cc, _, _, hir⟩ := hI
    rcases hir with e | ⟨b, o, e, k⟩
    · rw [e] at hq; simp at hq
    · exact (k q u hq).args.below hW
  have hcl : ∀ x ∈ l, x.l.length ≤ 1000000 ∧ x.fn.code = x.l.map (·.1) := by
    intro x hx
    have hfc : x.fn ∈ p.fns := by rw [← he]; exact List.mem_map.2 ⟨x, hx, rfl⟩
    obtain ⟨j, hj⟩ := List.mem_iff_getElem?.1 hx
    have hat : x.l.map (·.1) = x.fn.code := by
      rcases hfr with e | ⟨b, o, e, k⟩
      · rw [e] at hj; simp at hj
      · exact (k j x hj).eq
    exact ⟨by have := hs.code _ hfc; rw [← hat, List.length_map] at this; exact this, hat.symm⟩
  have hnab : na ≤ 1000000 := by rw [hna]; exact hs.arrays
  have hnlb : nl ≤ 1000000 := by rw [← hfl]; exact hs.fns
  rw [← hna] at hb0 hone ⊢
  rw [← hnl] at hb0 hone ⊢
  generalize hmw : mainW' p = mw at hres hmain hmno
  generalize rightW p = res at hres ⊢
  have HONE := Lib.hid hone; have HR := Lib.hid hres; have HMAIN := Lib.hid hmain; have HMNO := Lib.hid hmno; have HFR := Lib.hid hfr0; have HNL := Lib.hid hnl; have HNA := Lib.hid hna; have HB0 := Lib.hid hb0; have HAR := Lib.hid har; have HCL := Lib.hid hcl
  have HNAB := Lib.hid hnab; have HNLB := Lib.hid hnlb
  clear hone hres hmain hmno hmw hfr0 hnl hb0 hgg hs hca hcf har hfr he hfl hna hcl hnab hnlb
  obtain ⟨W0, hW0⟩ : ∃ W0, W0 = w.alloc (.cells #[.slice A na ca, .slice F nl cf, .int .i64 p.main] 30) := ⟨_, rfl⟩
  have bb := Blk.new w 30 #[.slice A na ca, .slice F nl cf, .int .i64 p.main]
  rw [← hW0] at bb HB0
  have c0 := bb.cell 0; have c1 := bb.cell 1; have c2 := bb.cell 2
  simp only [List.getElem?_toArray, List.getElem?_cons_zero, List.getElem?_cons_succ] at c0 c1 c2
  have C0 := Lib.hid c0; have C1 := Lib.hid c1; have C2 := Lib.hid c2
  clear bb c0 c1 c2
  go_enter Tryz.func15, Tryz.ntmps15
  go_upto_region 1 with fail
  rw [← hW0]
  clear hW0
  by_cases hm : p.main < 0 ∨ (nl : Int) ≤ p.main
  case pos =>
    have HM := Lib.hid hm
    have HE := Lib.hid (show res = false by rw [HR.out, HMNO.out hm]; simp)
    clear hm HMAIN HMNO
    obtain ⟨bb0, hbb0⟩ : ∃ b : Bool, b = (decide (16 < (na : Int))) := ⟨_, rfl⟩
    have Hbb0 := Lib.hid hbb0; clear hbb0
    obtain ⟨bb1, hbb1⟩ : ∃ b : Bool, b = (bb0 || (decide ((nl : Int) < 1))) := ⟨_, rfl⟩
    have Hbb1 := Lib.hid hbb1; clear hbb1
    obtain ⟨bb2, hbb2⟩ : ∃ b : Bool, b = (bb1 || (decide (64 < (nl : Int)))) := ⟨_, rfl⟩
    have Hbb2 := Lib.hid hbb2; clear hbb2
    obtain ⟨bb3, hbb3⟩ : ∃ b : Bool, b = (bb2 || (decide (p.main < 0))) := ⟨_, rfl⟩
    have Hbb3 := Lib.hid hbb3; clear hbb3
    refine wp_region_vals [(none, .pointer (some ⟨w.heap.size, 0, none⟩)), (none, .slice A na ca), (none, .int .i64 (na : Int)), (none, .bool (decide (16 < (na : Int)))), (none, .bool bb0), (some (11, false), gd bb0 false (.pointer (some ⟨w.heap.size, 1, none⟩))), (some (11, false), gd bb0 false (.slice F nl cf)), (some (11, false), gd bb0 false (.int .i64 (nl : Int))), (some (11, false), gd bb0 false (.bool (decide ((nl : Int) < 1)))), (none, .bool bb1), (none, .bool bb1), (some (17, false), gd bb1 false (.pointer (some ⟨w.heap.size, 1, none⟩))), (some (17, false), gd bb1 false (.slice F nl cf)), (some (17, false), gd bb1 false (.int .i64 (nl : Int))), (some (17, false), gd bb1 false (.bool (decide (64 < (nl : Int))))), (none, .bool bb2), (none, .bool bb2), (some (23, false), gd bb2 false (.pointer (some ⟨w.heap.size, 2, none⟩))), (some (23, false), gd bb2 false (.int .i64 p.main)), (some (23, false), gd bb2 false (.bool (decide (p.main < 0)))), (none, .bool bb3), (none, .bool bb3), (some (28, false), gd bb3 false (.pointer (some ⟨w.heap.size, 2, none⟩))), (some (28, false), gd bb3 false (.int .i64 p.main)), (some (28, false), gd bb3 false (.pointer (some ⟨w.heap.size, 1, none⟩))), (some (28, false), gd bb3 false (.slice F nl cf)), (some (28, false), gd bb3 false (.int .i64 (nl : Int))), (some (28, false), gd bb3 false (.bool (decide ((nl : Int) ≤ p.main)))), (none, .bool true), (none, .bool true), (some (36, false), undef), (some (36, false), undef), (some (36, false), undef), (some (36, false), undef), (some (36, false), undef), (some (36, false), undef), (some (36, false), undef), (some (36, false), undef), (none, .bool true)] mixed (by kernel_rfl) ?_
    intro FF hF
    have hL : HasL FF [(1, .pointer (some ⟨w.heap.size, 0, none⟩)), (7, .pointer (some ⟨w.heap.size, 0, none⟩)), (8, .slice A na ca), (9, .int .i64 (na : Int)), (10, .bool (decide (16 < (na : Int)))), (11, .bool bb0), (12, gd bb0 false (.pointer (some ⟨w.heap.size, 1, none⟩))), (13, gd bb0 false (.slice F nl cf)), (14, gd bb0 false (.int .i64 (nl : Int))), (15, gd bb0 false (.bool (decide ((nl : Int) < 1)))), (16, .bool bb1), (17, .bool bb1), (18, gd bb1 false (.pointer (some ⟨w.heap.size, 1, none⟩))), (19, gd bb1 false (.slice F nl cf)), (20, gd bb1 false (.int .i64 (nl : Int))), (21, gd bb1 false (.bool (decide (64 < (nl : Int))))), (22, .bool bb2), (23, .bool bb2), (24, gd bb2 false (.pointer (some ⟨w.heap.size, 2, none⟩))), (25, gd bb2 false (.int .i64 p.main)), (26, gd bb2 false (.bool (decide (p.main < 0)))), (27, .bool bb3), (28, .bool bb3), (29, gd bb3 false (.pointer (some ⟨w.heap.size, 2, none⟩))), (30, gd bb3 false (.int .i64 p.main)), (31, gd bb3 false (.pointer (some ⟨w.heap.size, 1, none⟩))), (32, gd bb3 false (.slice F nl cf)), (33, gd bb3 false (.int .i64 (nl : Int))), (34, gd bb3 false (.bool (decide ((nl : Int) ≤ p.main)))), (35, .bool true), (36, .bool true), (37, undef), (38, undef), (39, undef), (40, undef), (41, undef), (42, undef), (43, undef), (44, undef), (45, .bool true)] := by unfold HasL; rw [hF]; kernel_rfl
    have HF := Lib.hid hF; clear hF
    refine ⟨?_, ?_⟩
    · intro W hW
      repeat clear ‹∀ (a : Act) (w : World), Code.wp Tryz.prog _ _ a w → _›
      have gff := gd_ff
      have gtt := gd_tt
      exact
      ResL.cons (OpRes.val (by have a1 := hL.at 0 rfl; go_simp)) (
      ResL.cons (OpRes.val (by have a7 := hL.at 1 rfl; have kk := get_b hW C0.out; go_simp)) (
      ResL.cons (OpRes.val (by have a8 := hL.at 2 rfl; go_simp)) (
      ResL.cons (OpRes.val (by have a9 := hL.at 3 rfl; go_simp)) (
      ResL.cons (OpRes.val (by rw [Hbb0.out]; have a10 := hL.at 4 rfl; go_simp)) (
      ResL.cons (OpRes.gval (hL.at 5 rfl) (fun e0 => by have a1 := hL.at 0 rfl; subst e0; go_simp)) (
      ResL.cons (OpRes.gval (hL.at 5 rfl) (fun e0 => by have a12 := hL.at 6 rfl; have kk := get_b hW C1.out; subst e0; go_simp)) (
      ResL.cons (OpRes.gval (hL.at 5 rfl) (fun e0 => by have a13 := hL.at 7 rfl; subst e0; go_simp)) (
      ResL.cons (OpRes.gval (hL.at 5 rfl) (fun e0 => by have a14 := hL.at 8 rfl; subst e0; go_simp)) (
      ResL.cons (OpRes.val (by rw [Hbb1.out]; have a11 := hL.at 5 rfl; have a15 := hL.at 9 rfl; cases bb0 <;> go_simp)) (
      ResL.cons (OpRes.val (by have a16 := hL.at 10 rfl; go_simp)) (
      ResL.cons (OpRes.gval (hL.at 11 rfl) (fun e0 => by have a1 := hL.at 0 rfl; subst e0; go_simp)) (
      ResL.cons (OpRes.gval (hL.at 11 rfl) (fun e0 => by have a18 := hL.at 12 rfl; have kk := get_b hW C1.out; subst e0; go_simp)) (
      ResL.cons (OpRes.gval (hL.at 11 rfl) (fun e0 => by have a19 := hL.at 13 rfl; subst e0; go_simp)) (
      ResL.cons (OpRes.gval (hL.at 11 rfl) (fun e0 => by have a20 := hL.at 14 rfl; subst e0; go_simp)) (
      ResL.cons (OpRes.val (by rw [Hbb2.out]; have a17 := hL.at 11 rfl; have a21 := hL.at 15 rfl; cases bb1 <;> go_simp)) (
      ResL.cons (OpRes.val (by have a22 := hL.at 16 rfl; go_simp)) (
      ResL.cons (OpRes.gval (hL.at 17 rfl) (fun e0 => by have a1 := hL.at 0 rfl; subst e0; go_simp)) (
      ResL.cons (OpRes.gval (hL.at 17 rfl) (fun e0 => by have a24 := hL.at 18 rfl; have kk := get_b hW C2.out; subst e0; go_simp)) (
      ResL.cons (OpRes.gval (hL.at 17 rfl) (fun e0 => by have a25 := hL.at 19 rfl; subst e0; go_simp)) (
      ResL.cons (OpRes.val (by rw [Hbb3.out]; have a23 := hL.at 17 rfl; have a26 := hL.at 20 rfl; cases bb2 <;> go_simp)) (
      ResL.cons (OpRes.val (by have a27 := hL.at 21 rfl; go_simp)) (
      ResL.cons (OpRes.gval (hL.at 22 rfl) (fun e0 => by have a1 := hL.at 0 rfl; subst e0; go_simp)) (
      ResL.cons (OpRes.gval (hL.at 22 rfl) (fun e0 => by have a29 := hL.at 23 rfl; have kk := get_b hW C2.out; subst e0; go_simp)) (
      ResL.cons (OpRes.gval (hL.at 22 rfl) (fun e0 => by have a1 := hL.at 0 rfl; subst e0; go_simp)) (
      ResL.cons (OpRes.gval (hL.at 22 rfl) (fun e0 => by have a31 := hL.at 25 rfl; have kk := get_b hW C1.out; subst e0; go_simp)) (
      ResL.cons (OpRes.gval (hL.at 22 rfl) (fun e0 => by have a32 := hL.at 26 rfl; subst e0; go_simp)) (
      ResL.cons (OpRes.gval (hL.at 22 rfl) (fun e0 => by have a30 := hL.at 24 rfl; have a33 := hL.at 27 rfl; subst e0; go_simp)) (
      ResL.cons (OpRes.to (v := .bool (bb3 || (decide ((nl : Int) ≤ p.main)))) (by rw [(show (bb3 || (decide ((nl : Int) ≤ p.main))) = true by rw [Hbb3.out]; rcases HM.out with h | h <;> simp [h])]) (OpRes.val (by have a28 := hL.at 22 rfl; have a34 := hL.at 28 rfl; cases bb3 <;> go_simp))) (
      ResL.cons (OpRes.val (by have a35 := hL.at 29 rfl; go_simp)) (
      ResL.cons (OpRes.skip (hL.at 30 rfl) (rfl)) (
      ResL.cons (OpRes.skip (hL.at 30 rfl) (rfl)) (
      ResL.cons (OpRes.skip (hL.at 30 rfl) (rfl)) (
      ResL.cons (OpRes.skip (hL.at 30 rfl) (rfl)) (
      ResL.cons (OpRes.skip (hL.at 30 rfl) (rfl)) (
      ResL.cons (OpRes.skip (hL.at 30 rfl) (rfl)) (
      ResL.cons (OpRes.skip (hL.at 30 rfl) (rfl)) (
      ResL.cons (OpRes.skip (hL.at 30 rfl) (rfl)) (
      ResL.cons (OpRes.val (by have a36 := hL.at 30 rfl; have a44 := hL.at 38 rfl; go_simp)) (
      ResL.nil)))))))))))))))))))))))))))))))))))))))
    intro W hW
    clear hL
    obtain ⟨gg, hFF⟩ : ∃ gg : Nat → Value, FF = ⟨List.toArray (gg 0 :: .pointer (some ⟨w.heap.size, 0, none⟩) :: .bool false :: undef :: undef :: undef :: undef :: gg 7 :: gg 8 :: gg 9 :: gg 10 :: gg 11 :: gg 12 :: gg 13 :: gg 14 :: gg 15 :: gg 16 :: gg 17 :: gg 18 :: gg 19 :: gg 20 :: gg 21 :: gg 22 :: gg 23 :: gg 24 :: gg 25 :: gg 26 :: gg 27 :: gg 28 :: gg 29 :: gg 30 :: gg 31 :: gg 32 :: gg 33 :: gg 34 :: gg 35 :: gg 36 :: gg 37 :: gg 38 :: gg 39 :: gg 40 :: gg 41 :: gg 42 :: gg 43 :: gg 44 :: .bool true :: gg 46 :: gg 47 :: gg 48 :: gg 49 :: gg 50 :: gg 51 :: gg 52 :: gg 53 :: gg 54 :: gg 55 :: gg 56 :: gg 57 :: gg 58 :: gg 59 :: gg 60 :: gg 61 :: gg 62 :: gg 63 :: gg 64 :: gg 65 :: gg 66 :: gg 67 :: gg 68 :: gg 69 :: gg 70 :: gg 71 :: gg 72 :: gg 73 :: gg 74 :: gg 75 :: gg 76 :: gg 77 :: gg 78 :: gg 79 :: gg 80 :: gg 81 :: gg 82 :: gg 83 :: gg 84 :: gg 85 :: gg 86 :: gg 87 :: gg 88 :: gg 89 :: gg 90 :: gg 91 :: gg 92 :: gg 93 :: gg 94 :: gg 95 :: gg 96 :: gg 97 :: gg 98 :: gg 99 :: gg 100 :: gg 101 :: gg 102 :: gg 103 :: gg 104 :: gg 105 :: gg 106 :: gg 107 :: gg 108 :: gg 109 :: gg 110 :: gg 111 :: gg 112 :: gg 113 :: gg 114 :: gg 115 :: gg 116 :: gg 117 :: gg 118 :: gg 119 :: gg 120 :: gg 121 :: gg 122 :: gg 123 :: gg 124 :: gg 125 :: gg 126 :: gg 127 :: gg 128 :: gg 129 :: gg 130 :: gg 131 :: gg 132 :: gg 133 :: gg 134 :: gg 135 :: gg 136 :: gg 137 :: gg 138 :: []), []⟩ := ⟨fun k => FF.tmps.getD k undef, by rw [HF.out]; kernel_rfl⟩
    clear HF
    subst hFF
    refine wpList_nil ?_
    have HV := Lib.hid (HB0.out.trans (hW.mono HB0.out.size))
    clear hW
    go_wp2_with fail
    go_ret
    exact ⟨ret_b HE.out.symm, HV.out⟩
  case neg =>
    have hm0 : 0 ≤ p.main := by omega
    have hm1 : p.main < (nl : Int) := by omega
    obtain ⟨y, hy⟩ : ∃ y, l[p.main.toNat]? = some y := ⟨_, List.getElem?_eq_getElem (by rw [← HNL.out]; omega)⟩
    obtain ⟨fb, fo, hFe, hat⟩ : ∃ b o, F = some ⟨b, o, none⟩ ∧ ∀ i x, l[i]? = some x → fnAt w b (o + i * 4) x := by
      rcases HFR.out with e | ⟨b, o, e, k⟩
      · rw [e] at hy; simp at hy
      · exact ⟨b, o, e, k⟩
    subst hFe
    have HAT := Lib.hid hat
    have HY1 := Lib.hid ((hat _ y hy).below HB0.out).c1
    have HMW := Lib.hid (HMAIN.out y hy hm0 hm1)
    have HM0 := Lib.hid hm0; have HM1 := Lib.hid hm1
    clear hm hm0 hm1 hy hat HMAIN HMNO HFR
    obtain ⟨bb0, hbb0⟩ : ∃ b : Bool, b = (decide (16 < (na : Int))) := ⟨_, rfl⟩
    have Hbb0 := Lib.hid hbb0; clear hbb0
    obtain ⟨bb1, hbb1⟩ : ∃ b : Bool, b = (bb0 || (decide ((nl : Int) < 1))) := ⟨_, rfl⟩
    have Hbb1 := Lib.hid hbb1; clear hbb1
    obtain ⟨bb2, hbb2⟩ : ∃ b : Bool, b = (bb1 || (decide (64 < (nl : Int)))) := ⟨_, rfl⟩
    have Hbb2 := Lib.hid hbb2; clear hbb2
    obtain ⟨bb3, hbb3⟩ : ∃ b : Bool, b = (bb2 || (decide (p.main < 0))) := ⟨_, rfl⟩
    have Hbb3 := Lib.hid hbb3; clear hbb3
    obtain ⟨bb4, hbb4⟩ : ∃ b : Bool, b = (bb3 || (decide ((nl : Int) ≤ p.main))) := ⟨_, rfl⟩
    have Hbb4 := Lib.hid hbb4; clear hbb4
    obtain ⟨bb5, hbb5⟩ : ∃ b : Bool, b = (bb4 || (y.fn.params != 0)) := ⟨_, rfl⟩
    have Hbb5 := Lib.hid hbb5; clear hbb5
    refine wp_region_vals [(none, .pointer (some ⟨w.heap.size, 0, none⟩)), (none, .slice A na ca), (none, .int .i64 (na : Int)), (none, .bool (decide (16 < (na : Int)))), (none, .bool bb0), (some (11, false), gd bb0 false (.pointer (some ⟨w.heap.size, 1, none⟩))), (some (11, false), gd bb0 false (.slice (some ⟨fb, fo, none⟩) nl cf)), (some (11, false), gd bb0 false (.int .i64 (nl : Int))), (some (11, false), gd bb0 false (.bool (decide ((nl : Int) < 1)))), (none, .bool bb1), (none, .bool bb1), (some (17, false), gd bb1 false (.pointer (some ⟨w.heap.size, 1, none⟩))), (some (17, false), gd bb1 false (.slice (some ⟨fb, fo, none⟩) nl cf)), (some (17, false), gd bb1 false (.int .i64 (nl : Int))), (some (17, false), gd bb1 false (.bool (decide (64 < (nl : Int))))), (none, .bool bb2), (none, .bool bb2), (some (23, false), gd bb2 false (.pointer (some ⟨w.heap.size, 2, none⟩))), (some (23, false), gd bb2 false (.int .i64 p.main)), (some (23, false), gd bb2 false (.bool (decide (p.main < 0)))), (none, .bool bb3), (none, .bool bb3), (some (28, false), gd bb3 false (.pointer (some ⟨w.heap.size, 2, none⟩))), (some (28, false), gd bb3 false (.int .i64 p.main)), (some (28, false), gd bb3 false (.pointer (some ⟨w.heap.size, 1, none⟩))), (some (28, false), gd bb3 false (.slice (some ⟨fb, fo, none⟩) nl cf)), (some (28, false), gd bb3 false (.int .i64 (nl : Int))), (some (28, false), gd bb3 false (.bool (decide ((nl : Int) ≤ p.main)))), (none, .bool bb4), (none, .bool bb4), (some (36, false), gd bb4 false (.pointer (some ⟨w.heap.size, 1, none⟩))), (some (36, false), gd bb4 false (.slice (some ⟨fb, fo, none⟩) nl cf)), (some (36, false), gd bb4 false (.pointer (some ⟨w.heap.size, 2, none⟩))), (some (36, false), gd bb4 false (.int .i64 p.main)), (some (36, false), gd bb4 false (.pointer (some ⟨fb, fo + p.main.toNat * 4, none⟩))), (some (36, false), gd bb4 false (.pointer (some ⟨fb, fo + p.main.toNat * 4 + 1, none⟩))), (some (36, false), gd bb4 false (.int .i64 y.fn.params)), (some (36, false), gd bb4 false (.bool (y.fn.params != 0))), (none, .bool bb5)] mixed (by kernel_rfl) ?_
    intro FF hF
    have hL : HasL FF [(1, .pointer (some ⟨w.heap.size, 0, none⟩)), (7, .pointer (some ⟨w.heap.size, 0, none⟩)), (8, .slice A na ca), (9, .int .i64 (na : Int)), (10, .bool (decide (16 < (na : Int)))), (11, .bool bb0), (12, gd bb0 false (.pointer (some ⟨w.heap.size, 1, none⟩))), (13, gd bb0 false (.slice (some ⟨fb, fo, none⟩) nl cf)), (14, gd bb0 false (.int .i64 (nl : Int))), (15, gd bb0 false (.bool (decide ((nl : Int) < 1)))), (16, .bool bb1), (17, .bool bb1), (18, gd bb1 false (.pointer (some ⟨w.heap.size, 1, none⟩))), (19, gd bb1 false (.slice (some ⟨fb, fo, none⟩) nl cf)), (20, gd bb1 false (.int .i64 (nl : Int))), (21, gd bb1 false (.bool (decide (64 < (nl : Int))))), (22, .bool bb2), (23, .bool bb2), (24, gd bb2 false (.pointer (some ⟨w.heap.size, 2, none⟩))), (25, gd bb2 false (.int .i64 p.main)), (26, gd bb2 false (.bool (decide (p.main < 0)))), (27, .bool bb3), (28, .bool bb3), (29, gd bb3 false (.pointer (some ⟨w.heap.size, 2, none⟩))), (30, gd bb3 false (.int .i64 p.main)), (31, gd bb3 false (.pointer (some ⟨w.heap.size, 1, none⟩))), (32, gd bb3 false (.slice (some ⟨fb, fo, none⟩) nl cf)), (33, gd bb3 false (.int .i64 (nl : Int))), (34, gd bb3 false (.bool (decide ((nl : Int) ≤ p.main)))), (35, .bool bb4), (36, .bool bb4), (37, gd bb4 false (.pointer (some ⟨w.heap.size, 1, none⟩))), (38, gd bb4 false (.slice (some ⟨fb, fo, none⟩) nl cf)), (39, gd bb4 false (.pointer (some ⟨w.heap.size, 2, none⟩))), (40, gd bb4 false (.int .i64 p.main)), (41, gd bb4 false (.pointer (some ⟨fb, fo + p.main.toNat * 4, none⟩))), (42, gd bb4 false (.pointer (some ⟨fb, fo + p.main.toNat * 4 + 1, none⟩))), (43, gd bb4 false (.int .i64 y.fn.params)), (44, gd bb4 false (.bool (y.fn.params != 0))), (45, .bool bb5)] := by unfold HasL; rw [hF]; kernel_rfl
    have HF := Lib.hid hF; clear hF
    refine ⟨?_, ?_⟩
    · intro W hW
      repeat clear ‹∀ (a : Act) (w : World), Code.wp Tryz.prog _ _ a w → _›
      have gff := gd_ff
      have gtt := gd_tt
      have hm0 := HM0.out
      have hm1 := HM1.out
      exact
      ResL.cons (OpRes.val (by have a1 := hL.at 0 rfl; go_simp)) (
      ResL.cons (OpRes.val (by have a7 := hL.at 1 rfl; have kk := get_b hW C0.out; go_simp)) (
      ResL.cons (OpRes.val (by have a8 := hL.at 2 rfl; go_simp)) (
      ResL.cons (OpRes.val (by have a9 := hL.at 3 rfl; go_simp)) (
      ResL.cons (OpRes.val (by rw [Hbb0.out]; have a10 := hL.at 4 rfl; go_simp)) (
      ResL.cons (OpRes.gval (hL.at 5 rfl) (fun e0 => by have a1 := hL.at 0 rfl; subst e0; go_simp)) (
      ResL.cons (OpRes.gval (hL.at 5 rfl) (fun e0 => by have a12 := hL.at 6 rfl; have kk := get_b hW C1.out; subst e0; go_simp)) (
      ResL.cons (OpRes.gval (hL.at 5 rfl) (fun e0 => by have a13 := hL.at 7 rfl; subst e0; go_simp)) (
      ResL.cons (OpRes.gval (hL.at 5 rfl) (fun e0 => by have a14 := hL.at 8 rfl; subst e0; go_simp)) (
      ResL.cons (OpRes.val (by rw [Hbb1.out]; have a11 := hL.at 5 rfl; have a15 := hL.at 9 rfl; cases bb0 <;> go_simp)) (
      ResL.cons (OpRes.val (by have a16 := hL.at 10 rfl; go_simp)) (
      ResL.cons (OpRes.gval (hL.at 11 rfl) (fun e0 => by have a1 := hL.at 0 rfl; subst e0; go_simp)) (
      ResL.cons (OpRes.gval (hL.at 11 rfl) (fun e0 => by have a18 := hL.at 12 rfl; have kk := get_b hW C1.out; subst e0; go_simp)) (
      ResL.cons (OpRes.gval (hL.at 11 rfl) (fun e0 => by have a19 := hL.at 13 rfl; subst e0; go_simp)) (
      ResL.cons (OpRes.gval (hL.at 11 rfl) (fun e0 => by have a20 := hL.at 14 rfl; subst e0; go_simp)) (
      ResL.cons (OpRes.val (by rw [Hbb2.out]; have a17 := hL.at 11 rfl; have a21 := hL.at 15 rfl; cases bb1 <;> go_simp)) (
      ResL.cons (OpRes.val (by have a22 := hL.at 16 rfl; go_simp)) (
      ResL.cons (OpRes.gval (hL.at 17 rfl) (fun e0 => by have a1 := hL.at 0 rfl; subst e0; go_simp)) (
      ResL.cons (OpRes.gval (hL.at 17 rfl) (fun e0 => by have a24 := hL.at 18 rfl; have kk := get_b hW C2.out; subst e0; go_simp)) (
      ResL.cons (OpRes.gval (hL.at 17 rfl) (fun e0 => by have a25 := hL.at 19 rfl; subst e0; go_simp)) (
      ResL.cons (OpRes.val (by rw [Hbb3.out]; have a23 := hL.at 17 rfl; have a26 := hL.at 20 rfl; cases bb2 <;> go_simp)) (
      ResL.cons (OpRes.val (by have a27 := hL.at 21 rfl; go_simp)) (
      ResL.cons (OpRes.gval (hL.at 22 rfl) (fun e0 => by have a1 := hL.at 0 rfl; subst e0; go_simp)) (
      ResL.cons (OpRes.gval (hL.at 22 rfl) (fun e0 => by have a29 := hL.at 23 rfl; have kk := get_b hW C2.out; subst e0; go_simp)) (
      ResL.cons (OpRes.gval (hL.at 22 rfl) (fun e0 => by have a1 := hL.at 0 rfl; subst e0; go_simp)) (
      ResL.cons (OpRes.gval (hL.at 22 rfl) (fun e0 => by have a31 := hL.at 25 rfl; have kk := get_b hW C1.out; subst e0; go_simp)) (
      ResL.cons (OpRes.gval (hL.at 22 rfl) (fun e0 => by have a32 := hL.at 26 rfl; subst e0; go_simp)) (
      ResL.cons (OpRes.gval (hL.at 22 rfl) (fun e0 => by have a30 := hL.at 24 rfl; have a33 := hL.at 27 rfl; subst e0; go_simp)) (
      ResL.cons (OpRes.val (by rw [Hbb4.out]; have a28 := hL.at 22 rfl; have a34 := hL.at 28 rfl; cases bb3 <;> go_simp)) (
      ResL.cons (OpRes.val (by have a35 := hL.at 29 rfl; go_simp)) (
      ResL.cons (OpRes.gval (hL.at 30 rfl) (fun e0 => by have a1 := hL.at 0 rfl; subst e0; go_simp)) (
      ResL.cons (OpRes.gval (hL.at 30 rfl) (fun e0 => by have a37 := hL.at 31 rfl; have kk := get_b hW C1.out; subst e0; go_simp)) (
      ResL.cons (OpRes.gval (hL.at 30 rfl) (fun e0 => by have a1 := hL.at 0 rfl; subst e0; go_simp)) (
      ResL.cons (OpRes.gval (hL.at 30 rfl) (fun e0 => by have a39 := hL.at 33 rfl; have kk := get_b hW C2.out; subst e0; go_simp)) (
      ResL.cons (OpRes.gval (hL.at 30 rfl) (fun e0 => by have a38 := hL.at 32 rfl; have a40 := hL.at 34 rfl; subst e0; go_simp)) (
      ResL.cons (OpRes.gval (hL.at 30 rfl) (fun e0 => by have a41 := hL.at 35 rfl; subst e0; go_simp)) (
      ResL.cons (OpRes.gval (hL.at 30 rfl) (fun e0 => by have a42 := hL.at 36 rfl; have kk := get_b hW HY1.out; subst e0; go_simp)) (
      ResL.cons (OpRes.gval (hL.at 30 rfl) (fun e0 => by have a43 := hL.at 37 rfl; subst e0; go_simp)) (
      ResL.cons (OpRes.val (by rw [Hbb5.out]; have a36 := hL.at 30 rfl; have a44 := hL.at 38 rfl; cases bb4 <;> go_simp)) (
      ResL.nil)))))))))))))))))))))))))))))))))))))))
    intro W hW
    clear hL
    obtain ⟨gg, hFF⟩ : ∃ gg : Nat → Value, FF = ⟨List.toArray (gg 0 :: .pointer (some ⟨w.heap.size, 0, none⟩) :: .bool false :: undef :: undef :: undef :: undef :: gg 7 :: gg 8 :: gg 9 :: gg 10 :: gg 11 :: gg 12 :: gg 13 :: gg 14 :: gg 15 :: gg 16 :: gg 17 :: gg 18 :: gg 19 :: gg 20 :: gg 21 :: gg 22 :: gg 23 :: gg 24 :: gg 25 :: gg 26 :: gg 27 :: gg 28 :: gg 29 :: gg 30 :: gg 31 :: gg 32 :: gg 33 :: gg 34 :: gg 35 :: gg 36 :: gg 37 :: gg 38 :: gg 39 :: gg 40 :: gg 41 :: gg 42 :: gg 43 :: gg 44 :: .bool bb5 :: gg 46 :: gg 47 :: gg 48 :: gg 49 :: gg 50 :: gg 51 :: gg 52 :: gg 53 :: gg 54 :: gg 55 :: gg 56 :: gg 57 :: gg 58 :: gg 59 :: gg 60 :: gg 61 :: gg 62 :: gg 63 :: gg 64 :: gg 65 :: gg 66 :: gg 67 :: gg 68 :: gg 69 :: gg 70 :: gg 71 :: gg 72 :: gg 73 :: gg 74 :: gg 75 :: gg 76 :: gg 77 :: gg 78 :: gg 79 :: gg 80 :: gg 81 :: gg 82 :: gg 83 :: gg 84 :: gg 85 :: gg 86 :: gg 87 :: gg 88 :: gg 89 :: gg 90 :: gg 91 :: gg 92 :: gg 93 :: gg 94 :: gg 95 :: gg 96 :: gg 97 :: gg 98 :: gg 99 :: gg 100 :: gg 101 :: gg 102 :: gg 103 :: gg 104 :: gg 105 :: gg 106 :: gg 107 :: gg 108 :: gg 109 :: gg 110 :: gg 111 :: gg 112 :: gg 113 :: gg 114 :: gg 115 :: gg 116 :: gg 117 :: gg 118 :: gg 119 :: gg 120 :: gg 121 :: gg 122 :: gg 123 :: gg 124 :: gg 125 :: gg 126 :: gg 127 :: gg 128 :: gg 129 :: gg 130 :: gg 131 :: gg 132 :: gg 133 :: gg 134 :: gg 135 :: gg 136 :: gg 137 :: gg 138 :: []), []⟩ := ⟨fun k => FF.tmps.getD k undef, by rw [HF.out]; kernel_rfl⟩
    clear HF
    subst hFF
    refine wpList_nil ?_
    have HV := Lib.hid (HB0.out.trans (hW.mono HB0.out.size))
    have D0 := Lib.hid (get_b hW C0.out); have D1 := Lib.hid (get_b hW C1.out); have D2 := Lib.hid (get_b hW C2.out)
    have hcond : bb5 = !(decide (na ≤ 16 ∧ nl ≤ 64) && mw) := by
      have qbb0 := Hbb0.out; have qbb1 := Hbb1.out; have qbb2 := Hbb2.out; have qbb3 := Hbb3.out; have qbb4 := Hbb4.out; have qbb5 := Hbb5.out
      subst qbb5 qbb4 qbb3 qbb2 qbb1 qbb0
      rw [HMW.out]
      have hm0 := HM0.out; have hm1 := HM1.out
      have e3 : decide (p.main < 0) = false := decide_eq_false (by omega)
      have e4 : decide ((nl : Int) ≤ p.main) = false := decide_eq_false (by omega)
      have e5 : (y.fn.params != 0) = !decide (y.fn.params = 0) := by rw [bne, Bool.beq_eq_decide_eq]
      have e6 : decide ((nl : Int) < 1) = false := decide_eq_false (by omega)
      rw [e3, e4, e5, e6]
      by_cases g1 : (16 : Int) < (na : Int)
      · have : ¬ (na ≤ 16 ∧ nl ≤ 64) := by omega
        rw [decide_eq_true g1, decide_eq_false this]; simp
      · by_cases g2 : (64 : Int) < (nl : Int)
        · have : ¬ (na ≤ 16 ∧ nl ≤ 64) := by omega
          rw [decide_eq_true g2, decide_eq_false this]; simp
        · have : na ≤ 16 ∧ nl ≤ 64 := by omega
          rw [decide_eq_false g1, decide_eq_false g2, decide_eq_true this]; simp
    cases hbb : bb5 with
    | true =>
      have HE := Lib.hid (show res = false by
        rw [hbb] at hcond
        rw [HR.out]
        revert hcond
        cases (decide (na ≤ 16 ∧ nl ≤ 64) && mw) <;> simp)
      clear hcond hbb hW
      go_wp2_with fail
      go_ret
      exact ⟨ret_b HE.out.symm, HV.out⟩
    | false =>
      have HE := Lib.hid (show res = (!(p.arrays.any fun n => !decide (1 ≤ n ∧ n ≤ 4096)) && !(l.any fun f => !fnW p f.fn)) by
        rw [hbb] at hcond
        rw [HR.out]
        revert hcond
        cases (decide (na ≤ 16 ∧ nl ≤ 64) && mw) <;> simp)
      clear hcond hbb hW HR C0 C1 C2 HMW HY1 HB0 HM0 HM1 Hbb0 Hbb1 Hbb2 Hbb3 Hbb4 Hbb5
      go_wp2_with fail
      go_loopg [3] na (fun gk v wr => ∃ i : Nat, i ≤ na ∧ na - i ≤ gk ∧ v = .int .i64 i ∧ Hid (Below W.heap.size W wr) ∧ Hid ((p.arrays.take i).any (fun n => !decide (1 ≤ n ∧ n ≤ 4096)) = false))
      case atStart => exact ⟨0, Nat.zero_le _, Nat.le_refl _, rfl, Lib.hid (Below.refl _ _), Lib.hid (by simp)⟩
      case round =>
      obtain ⟨i, hi, hgk, rfl, HB, HI⟩ := hrel
      have k0 := get_b HB.out D0.out
      have lk := cell_lt' k0
      by_cases hlt : i < na
      case pos =>
        have q : decide ((i : Int) < (na : Int)) = true := decide_eq_true (by omega)
        obtain ⟨y, hy⟩ : ∃ y, p.arrays[i]? = some y := ⟨_, List.getElem?_eq_getElem (by rw [← HNA.out]; exact hlt)⟩
        obtain ⟨ab, ao, rfl, hat⟩ : ∃ b o, A = some ⟨b, o, none⟩ ∧ wr.cell? ⟨b, o + i * 1, none⟩ = some (.int .i64 y) := by
          rcases HAR.out with e | ⟨b, o, e, k⟩
          · rw [e] at hy; simp at hy
          · exact ⟨b, o, e, get_b HB.out (get_b HV.out (k i y hy))⟩
        rw [Nat.mul_one] at hat
        have HYC := Lib.hid hat; have HY := Lib.hid hy; have HII := Lib.hid (show (i : Int) < (na : Int) by omega)
        clear hat hy
        go_upto_region 6 with fail
        obtain ⟨jj0, hjj0⟩ : ∃ b : Bool, b = (decide (y < 1)) := ⟨_, rfl⟩
        have Hjj0 := Lib.hid hjj0; clear hjj0
        obtain ⟨jj1, hjj1⟩ : ∃ b : Bool, b = (jj0 || (decide (4096 < y))) := ⟨_, rfl⟩
        have Hjj1 := Lib.hid hjj1; clear hjj1
        refine wp_region_valsA [(none, .pointer (some ⟨w.heap.size, 0, none⟩)), (none, .slice (some ⟨ab, ao, none⟩) na ca), (none, .int .i64 (i : Int)), (none, .pointer (some ⟨ab, ao + i, none⟩)), (none, .int .i64 y), (none, .bool (decide (y < 1))), (none, .bool jj0), (some (59, false), gd jj0 false (.pointer (some ⟨w.heap.size, 0, none⟩))), (some (59, false), gd jj0 false (.slice (some ⟨ab, ao, none⟩) na ca)), (some (59, false), gd jj0 false (.int .i64 (i : Int))), (some (59, false), gd jj0 false (.pointer (some ⟨ab, ao + i, none⟩))), (some (59, false), gd jj0 false (.int .i64 y)), (some (59, false), gd jj0 false (.bool (decide (4096 < y)))), (none, .bool jj1)] mixed (by kernel_rfl) ?_
        intro FF AA hA hF
        have hL : HasL FF [(1, .pointer (some ⟨w.heap.size, 0, none⟩)), (3, .int .i64 (i : Int)), (53, .pointer (some ⟨w.heap.size, 0, none⟩)), (54, .slice (some ⟨ab, ao, none⟩) na ca), (55, .int .i64 (i : Int)), (56, .pointer (some ⟨ab, ao + i, none⟩)), (57, .int .i64 y), (58, .bool (decide (y < 1))), (59, .bool jj0), (60, gd jj0 false (.pointer (some ⟨w.heap.size, 0, none⟩))), (61, gd jj0 false (.slice (some ⟨ab, ao, none⟩) na ca)), (62, gd jj0 false (.int .i64 (i : Int))), (63, gd jj0 false (.pointer (some ⟨ab, ao + i, none⟩))), (64, gd jj0 false (.int .i64 y)), (65, gd jj0 false (.bool (decide (4096 < y)))), (66, .bool jj1)] := by unfold HasL; rw [hF, hA]; kernel_rfl
        have HF := Lib.hid hF; clear hF; have HA := Lib.hid hA; clear hA
        refine ⟨?_, ?_⟩
        · intro Z hZ
          repeat clear ‹∀ (a : Act) (w : World), Code.wp Tryz.prog _ _ a w → _›
          have gff := gd_ff
          have gtt := gd_tt
          have hi0 := HII.out
          exact
          ResL.cons (OpRes.val (by have a1 := hL.at 0 rfl; go_simp)) (
          ResL.cons (OpRes.val (by have a53 := hL.at 2 rfl; have kk := get_b hZ k0; go_simp)) (
          ResL.cons (OpRes.val (by have a3 := hL.at 1 rfl; go_simp)) (
          ResL.cons (OpRes.val (by have a54 := hL.at 3 rfl; have a55 := hL.at 4 rfl; go_simp)) (
          ResL.cons (OpRes.val (by have a56 := hL.at 5 rfl; have kk := get_b hZ HYC.out; go_simp)) (
          ResL.cons (OpRes.val (by have a57 := hL.at 6 rfl; go_simp)) (
          ResL.cons (OpRes.val (by rw [Hjj0.out]; have a58 := hL.at 7 rfl; go_simp)) (
          ResL.cons (OpRes.gval (hL.at 8 rfl) (fun e0 => by have a1 := hL.at 0 rfl; subst e0; go_simp)) (
          ResL.cons (OpRes.gval (hL.at 8 rfl) (fun e0 => by have a60 := hL.at 9 rfl; have kk := get_b hZ k0; subst e0; go_simp)) (
          ResL.cons (OpRes.gval (hL.at 8 rfl) (fun e0 => by have a3 := hL.at 1 rfl; subst e0; go_simp)) (
          ResL.cons (OpRes.gval (hL.at 8 rfl) (fun e0 => by have a61 := hL.at 10 rfl; have a62 := hL.at 11 rfl; subst e0; go_simp)) (
          ResL.cons (OpRes.gval (hL.at 8 rfl) (fun e0 => by have a63 := hL.at 12 rfl; have kk := get_b hZ HYC.out; subst e0; go_simp)) (
          ResL.cons (OpRes.gval (hL.at 8 rfl) (fun e0 => by have a64 := hL.at 13 rfl; subst e0; go_simp)) (
          ResL.cons (OpRes.val (by rw [Hjj1.out]; have a59 := hL.at 8 rfl; have a65 := hL.at 14 rfl; cases jj0 <;> go_simp)) (
          ResL.nil))))))))))))))
        intro Z hZ
        clear hL
        obtain ⟨gj, hFF⟩ : ∃ gj : Nat → Value, FF = putL [(53, gj 53), (54, gj 54), (55, gj 55), (56, gj 56), (57, gj 57), (58, gj 58), (59, gj 59), (60, gj 60), (61, gj 61), (62, gj 62), (63, gj 63), (64, gj 64), (65, gj 65), (66, .bool jj1)] AA := ⟨fun k => FF.tmps.getD k undef, by rw [HF.out, HA.out]; kernel_rfl⟩
        clear HF
        rw [HA.out] at hFF; clear HA
        simp only [putL, Act.put, List.setIfInBounds_toArray, List.set_cons_zero, List.set_cons_succ] at hFF
        subst hFF
        refine wpList_nil ?_
        have HBZ := Lib.hid (HB.out.trans (hZ.mono HB.out.size)); clear hZ
        have hjy : jj1 = !decide (1 ≤ y ∧ y ≤ 4096) := by
          rw [Hjj1.out, Hjj0.out]
          by_cases h1 : y < 1
          · have : ¬ (1 ≤ y ∧ y ≤ 4096) := by omega
            rw [decide_eq_true h1, decide_eq_false this]; rfl
          · by_cases h2 : 4096 < y
            · have : ¬ (1 ≤ y ∧ y ≤ 4096) := by omega
              rw [decide_eq_true h2, decide_eq_false this]; simp
            · have : 1 ≤ y ∧ y ≤ 4096 := by omega
              rw [decide_eq_false h1, decide_eq_false h2, decide_eq_true this]; rfl
        cases hjj : jj1 with
        | true =>
          have HRR := Lib.hid (show res = false by
            have e : (p.arrays.any fun n => !decide (1 ≤ n ∧ n ≤ 4096)) = true := List.any_eq_true.2 ⟨y, List.mem_of_getElem? HY.out, by rw [← hjy, hjj]⟩
            rw [HE.out, e]
            rfl)
          clear hjy hjj k0
          go_wp2_with fail
          go_ret
          exact ⟨ret_b HRR.out.symm, HV.out.trans (HBZ.out.mono HV.out.size)⟩
        | false =>
          have HI2 := Lib.hid (take_any_no HI.out HY.out (by rw [← hjy, hjj]))
          have hnab := HNAB.out
          clear hjy hjj k0
          go_wp2_with fail
          cases gk with
          | zero => omega
          | succ gk =>
            go_roundg gk
            case measure => omega
            case rel => exact ⟨i + 1, by omega, by omega, by simp, HBZ, HI2⟩
      case neg =>
        have q : decide ((i : Int) < (na : Int)) = false := decide_eq_false (by omega)
        have HE2 := Lib.hid (show res = !(l.any fun f => !fnW p f.fn) by
          have e := HI.out
          rw [List.take_of_length_le (by rw [← HNA.out]; omega)] at e
          rw [HE.out, e]
          rfl)
        have HVR := Lib.hid (HV.out.trans (HB.out.mono HV.out.size))
        have F0 := Lib.hid (get_b HB.out D0.out); have F1 := Lib.hid (get_b HB.out D1.out); have F2 := Lib.hid (get_b HB.out D2.out)
        clear hgk HI HE D0 D1 D2 HB HV
        go_wp2_with fail
        obtain ⟨WB, hWB⟩ : ∃ x, x = wr := ⟨_, rfl⟩
        rw [← hWB] at HVR F0 F1 F2 ⊢
        clear hWB k0 lk
        go_loopg [4] nl (fun gk v wr => ∃ i : Nat, i ≤ nl ∧ nl - i ≤ gk ∧ v = .int .i64 i ∧ Hid (Below WB.heap.size WB wr) ∧ Hid ((l.take i).any (fun f => !fnW p f.fn) = false))
        case atStart => exact ⟨0, Nat.zero_le _, Nat.le_refl _, rfl, Lib.hid (Below.refl _ _), Lib.hid (by simp)⟩
        case round =>
        obtain ⟨i, hi, hgk, rfl, HB, HI⟩ := hrel
        have k1 := get_b HB.out F1.out
        have lk := cell_lt' k1
        by_cases hlt : i < nl
        case neg =>
          have q : decide ((i : Int) < (nl : Int)) = false := decide_eq_false (by omega)
          have HRR := Lib.hid (show res = true by
            have e := HI.out
            rw [List.take_of_length_le (by rw [← HNL.out]; omega)] at e
            rw [HE2.out, e]
            rfl)
          go_wp2_with fail
          go_ret
          exact ⟨ret_b HRR.out.symm, HVR.out.trans (HB.out.mono HVR.out.size)⟩
        case pos =>
          have q : decide ((i : Int) < (nl : Int)) = true := decide_eq_true (by omega)
          obtain ⟨x, hx⟩ : ∃ x, l[i]? = some x := ⟨_, List.getElem?_eq_getElem (by rw [← HNL.out]; exact hlt)⟩
          have hwr := HVR.out.trans (HB.out.mono HVR.out.size)
          have hat := (HAT.out i x hx).below hwr
          obtain ⟨x0, x1, x2, x3, xc, xe⟩ := hat
          have hxc := (HAT.out i x hx).code
          have HXC := Lib.hid hxc
          obtain ⟨C, cc, hcv, hcc, hir⟩ := xc
          obtain ⟨nc, hnc⟩ : ∃ n, n = x.l.length := ⟨_, rfl⟩
          have hxl := HCL.out x (List.mem_of_getElem? hx)
          rw [hcv, ← hnc] at x3
          have lb := cell_lt' x0
          have hii : (i : Int) < (nl : Int) := by omega
          have HWR := Lib.hid hwr; have HX := Lib.hid hx; have HCV := Lib.hid hcv; have HIR := Lib.hid hir; have HNC := Lib.hid hnc; have HXL := Lib.hid hxl; have HXE := Lib.hid xe
          clear hwr hx hxc hcv hir hnc hxl hcc xe
          go_upto_region 12 with fail
          have bk := Blk.new wr 63 #[.string ⟨x.fn.name.toArray⟩, .int .i64 x.fn.params, .int .i64 x.fn.vars, .slice C nc cc]
          have hbw : Below wr.heap.size wr (wr.alloc (.cells #[.string ⟨x.fn.name.toArray⟩, .int .i64 x.fn.params, .int .i64 x.fn.vars, .slice C nc cc] 63)) := (Below.refl _ _).alloc (Nat.le_refl _) _
          obtain ⟨W1, hW1⟩ : ∃ W1, W1 = wr.alloc (.cells #[.string ⟨x.fn.name.toArray⟩, .int .i64 x.fn.params, .int .i64 x.fn.vars, .slice C nc cc] 63) := ⟨_, rfl⟩
          rw [← hW1] at bk hbw ⊢
          clear hW1 x0 x1 x2 x3 lb k1 q
          have e0 := bk.cell 0; have e1 := bk.cell 1; have e2 := bk.cell 2; have e3 := bk.cell 3
          simp only [List.getElem?_toArray, List.getElem?_cons_zero, List.getElem?_cons_succ] at e0 e1 e2 e3
          have E0 := Lib.hid e0; have E1 := Lib.hid e1; have E2 := Lib.hid e2; have E3 := Lib.hid e3
          have HB1 := Lib.hid (HB.out.trans (hbw.mono HB.out.size))
          have HW1 := Lib.hid (HWR.out.trans (hbw.mono HWR.out.size))
          have HBW1 := Lib.hid hbw
          clear bk e0 e1 e2 e3 hbw
          have HFN := Lib.hid (show fnW p x.fn = (decide (0 ≤ x.fn.params ∧ x.fn.params ≤ 6 ∧ x.fn.params ≤ x.fn.vars ∧ x.fn.vars ≤ 200 ∧ nc ≤ 8000) && endsW x.fn && !(x.l.any fun u => !oneW p x.fn u.1)) by
            rw [fnW, HXL.out.2, List.length_map, ← HNC.out, List.all_map, List.not_any_eq_all_not]
            congr 1
            simp
            rfl)
          have HNCB := Lib.hid (show nc ≤ 1000000 by rw [HNC.out]; exact HXL.out.1)
          by_cases hil : x.l = []
          case pos =>
            have h0 : nc = 0 := by rw [HNC.out, hil]; rfl
            have HRR := Lib.hid (show res = false by
              have hend : endsW x.fn = false := by unfold endsW; rw [HXL.out.2, hil]; rfl
              have e : (l.any fun f => !fnW p f.fn) = true := List.any_eq_true.2 ⟨x, List.mem_of_getElem? HX.out, by rw [HFN.out, hend]; simp⟩
              rw [HE2.out, e]
              rfl)
            subst h0
            obtain ⟨bb0, hbb0⟩ : ∃ b : Bool, b = (decide (x.fn.params < 0)) := ⟨_, rfl⟩
            have Hbb0 := Lib.hid hbb0; clear hbb0
            obtain ⟨bb1, hbb1⟩ : ∃ b : Bool, b = (bb0 || (decide (6 < x.fn.params))) := ⟨_, rfl⟩
            have Hbb1 := Lib.hid hbb1; clear hbb1
            obtain ⟨bb2, hbb2⟩ : ∃ b : Bool, b = (bb1 || (decide (x.fn.vars < x.fn.params))) := ⟨_, rfl⟩
            have Hbb2 := Lib.hid hbb2; clear hbb2
            obtain ⟨bb3, hbb3⟩ : ∃ b : Bool, b = (bb2 || (decide (200 < x.fn.vars))) := ⟨_, rfl⟩
            have Hbb3 := Lib.hid hbb3; clear hbb3
            refine wp_region_valsA [(none, .pointer (some ⟨wr.heap.size, 1, none⟩)), (none, .int .i64 x.fn.params), (none, .bool (decide (x.fn.params < 0))), (none, .bool bb0), (some (82, false), gd bb0 false (.pointer (some ⟨wr.heap.size, 1, none⟩))), (some (82, false), gd bb0 false (.int .i64 x.fn.params)), (some (82, false), gd bb0 false (.bool (decide (6 < x.fn.params)))), (none, .bool bb1), (none, .bool bb1), (some (87, false), gd bb1 false (.pointer (some ⟨wr.heap.size, 2, none⟩))), (some (87, false), gd bb1 false (.int .i64 x.fn.vars)), (some (87, false), gd bb1 false (.pointer (some ⟨wr.heap.size, 1, none⟩))), (some (87, false), gd bb1 false (.int .i64 x.fn.params)), (some (87, false), gd bb1 false (.bool (decide (x.fn.vars < x.fn.params)))), (none, .bool bb2), (none, .bool bb2), (some (94, false), gd bb2 false (.pointer (some ⟨wr.heap.size, 2, none⟩))), (some (94, false), gd bb2 false (.int .i64 x.fn.vars)), (some (94, false), gd bb2 false (.bool (decide (200 < x.fn.vars)))), (none, .bool bb3), (none, .bool bb3), (some (99, false), gd bb3 false (.pointer (some ⟨wr.heap.size, 3, none⟩))), (some (99, false), gd bb3 false (.slice C 0 cc)), (some (99, false), gd bb3 false (.int .i64 (0 : Int))), (some (99, false), gd bb3 false (.bool (decide ((0 : Int) < 1)))), (none, .bool true), (none, .bool true), (some (105, false), undef), (some (105, false), undef), (some (105, false), undef), (some (105, false), undef), (none, .bool true), (none, .bool true), (some (111, false), undef), (some (111, false), undef), (some (111, false), undef), (some (111, false), undef), (some (111, false), undef), (some (111, false), undef), (some (111, false), undef), (some (111, false), undef), (some (111, false), undef), (some (111, false), undef), (none, .bool true)] mixed (by kernel_rfl) ?_
            intro FF AA hA hF
            have hL : HasL FF [(5, .pointer (some ⟨wr.heap.size, 0, none⟩)), (79, .pointer (some ⟨wr.heap.size, 1, none⟩)), (80, .int .i64 x.fn.params), (81, .bool (decide (x.fn.params < 0))), (82, .bool bb0), (83, gd bb0 false (.pointer (some ⟨wr.heap.size, 1, none⟩))), (84, gd bb0 false (.int .i64 x.fn.params)), (85, gd bb0 false (.bool (decide (6 < x.fn.params)))), (86, .bool bb1), (87, .bool bb1), (88, gd bb1 false (.pointer (some ⟨wr.heap.size, 2, none⟩))), (89, gd bb1 false (.int .i64 x.fn.vars)), (90, gd bb1 false (.pointer (some ⟨wr.heap.size, 1, none⟩))), (91, gd bb1 false (.int .i64 x.fn.params)), (92, gd bb1 false (.bool (decide (x.fn.vars < x.fn.params)))), (93, .bool bb2), (94, .bool bb2), (95, gd bb2 false (.pointer (some ⟨wr.heap.size, 2, none⟩))), (96, gd bb2 false (.int .i64 x.fn.vars)), (97, gd bb2 false (.bool (decide (200 < x.fn.vars)))), (98, .bool bb3), (99, .bool bb3), (100, gd bb3 false (.pointer (some ⟨wr.heap.size, 3, none⟩))), (101, gd bb3 false (.slice C 0 cc)), (102, gd bb3 false (.int .i64 (0 : Int))), (103, gd bb3 false (.bool (decide ((0 : Int) < 1)))), (104, .bool true), (105, .bool true), (106, undef), (107, undef), (108, undef), (109, undef), (110, .bool true), (111, .bool true), (112, undef), (113, undef), (114, undef), (115, undef), (116, undef), (117, undef), (118, undef), (119, undef), (120, undef), (121, undef), (122, .bool true)] := by unfold HasL; rw [hF, hA]; kernel_rfl
            have HF := Lib.hid hF; clear hF; have HA := Lib.hid hA; clear hA
            refine ⟨?_, ?_⟩
            · intro V hV
              repeat clear ‹∀ (a : Act) (w : World), Code.wp Tryz.prog _ _ a w → _›
              have gff := gd_ff
              have gtt := gd_tt
              exact
              ResL.cons (OpRes.val (by have a5 := hL.at 0 rfl; go_simp)) (
              ResL.cons (OpRes.val (by have a79 := hL.at 1 rfl; have kk := get_b hV E1.out; go_simp)) (
              ResL.cons (OpRes.val (by have a80 := hL.at 2 rfl; go_simp)) (
              ResL.cons (OpRes.val (by rw [Hbb0.out]; have a81 := hL.at 3 rfl; go_simp)) (
              ResL.cons (OpRes.gval (hL.at 4 rfl) (fun e0 => by have a5 := hL.at 0 rfl; subst e0; go_simp)) (
              ResL.cons (OpRes.gval (hL.at 4 rfl) (fun e0 => by have a83 := hL.at 5 rfl; have kk := get_b hV E1.out; subst e0; go_simp)) (
              ResL.cons (OpRes.gval (hL.at 4 rfl) (fun e0 => by have a84 := hL.at 6 rfl; subst e0; go_simp)) (
              ResL.cons (OpRes.val (by rw [Hbb1.out]; have a82 := hL.at 4 rfl; have a85 := hL.at 7 rfl; cases bb0 <;> go_simp)) (
              ResL.cons (OpRes.val (by have a86 := hL.at 8 rfl; go_simp)) (
              ResL.cons (OpRes.gval (hL.at 9 rfl) (fun e0 => by have a5 := hL.at 0 rfl; subst e0; go_simp)) (
              ResL.cons (OpRes.gval (hL.at 9 rfl) (fun e0 => by have a88 := hL.at 10 rfl; have kk := get_b hV E2.out; subst e0; go_simp)) (
              ResL.cons (OpRes.gval (hL.at 9 rfl) (fun e0 => by have a5 := hL.at 0 rfl; subst e0; go_simp)) (
              ResL.cons (OpRes.gval (hL.at 9 rfl) (fun e0 => by have a90 := hL.at 12 rfl; have kk := get_b hV E1.out; subst e0; go_simp)) (
              ResL.cons (OpRes.gval (hL.at 9 rfl) (fun e0 => by have a89 := hL.at 11 rfl; have a91 := hL.at 13 rfl; subst e0; go_simp)) (
              ResL.cons (OpRes.val (by rw [Hbb2.out]; have a87 := hL.at 9 rfl; have a92 := hL.at 14 rfl; cases bb1 <;> go_simp)) (
              ResL.cons (OpRes.val (by have a93 := hL.at 15 rfl; go_simp)) (
              ResL.cons (OpRes.gval (hL.at 16 rfl) (fun e0 => by have a5 := hL.at 0 rfl; subst e0; go_simp)) (
              ResL.cons (OpRes.gval (hL.at 16 rfl) (fun e0 => by have a95 := hL.at 17 rfl; have kk := get_b hV E2.out; subst e0; go_simp)) (
              ResL.cons (OpRes.gval (hL.at 16 rfl) (fun e0 => by have a96 := hL.at 18 rfl; subst e0; go_simp)) (
              ResL.cons (OpRes.val (by rw [Hbb3.out]; have a94 := hL.at 16 rfl; have a97 := hL.at 19 rfl; cases bb2 <;> go_simp)) (
              ResL.cons (OpRes.val (by have a98 := hL.at 20 rfl; go_simp)) (
              ResL.cons (OpRes.gval (hL.at 21 rfl) (fun e0 => by have a5 := hL.at 0 rfl; subst e0; go_simp)) (
              ResL.cons (OpRes.gval (hL.at 21 rfl) (fun e0 => by have a100 := hL.at 22 rfl; have kk := get_b hV E3.out; subst e0; go_simp)) (
              ResL.cons (OpRes.gval (hL.at 21 rfl) (fun e0 => by have a101 := hL.at 23 rfl; subst e0; go_simp)) (
              ResL.cons (OpRes.gval (hL.at 21 rfl) (fun e0 => by have a102 := hL.at 24 rfl; subst e0; go_simp)) (
              ResL.cons (OpRes.to (v := .bool (bb3 || (decide ((0 : Int) < 1)))) (by rw [(show (bb3 || (decide ((0 : Int) < 1))) = true by simp)]) (OpRes.val (by have a99 := hL.at 21 rfl; have a103 := hL.at 25 rfl; cases bb3 <;> go_simp))) (
              ResL.cons (OpRes.val (by have a104 := hL.at 26 rfl; go_simp)) (
              ResL.cons (OpRes.skip (hL.at 27 rfl) (rfl)) (
              ResL.cons (OpRes.skip (hL.at 27 rfl) (rfl)) (
              ResL.cons (OpRes.skip (hL.at 27 rfl) (rfl)) (
              ResL.cons (OpRes.skip (hL.at 27 rfl) (rfl)) (
              ResL.cons (OpRes.val (by have a105 := hL.at 27 rfl; have a109 := hL.at 31 rfl; go_simp)) (
              ResL.cons (OpRes.val (by have a110 := hL.at 32 rfl; go_simp)) (
              ResL.cons (OpRes.skip (hL.at 33 rfl) (rfl)) (
              ResL.cons (OpRes.skip (hL.at 33 rfl) (rfl)) (
              ResL.cons (OpRes.skip (hL.at 33 rfl) (rfl)) (
              ResL.cons (OpRes.skip (hL.at 33 rfl) (rfl)) (
              ResL.cons (OpRes.skip (hL.at 33 rfl) (rfl)) (
              ResL.cons (OpRes.skip (hL.at 33 rfl) (rfl)) (
              ResL.cons (OpRes.skip (hL.at 33 rfl) (rfl)) (
              ResL.cons (OpRes.skip (hL.at 33 rfl) (rfl)) (
              ResL.cons (OpRes.skip (hL.at 33 rfl) (rfl)) (
              ResL.cons (OpRes.skip (hL.at 33 rfl) (rfl)) (
              ResL.cons (OpRes.val (by have a111 := hL.at 33 rfl; have a121 := hL.at 43 rfl; go_simp)) (
              ResL.nil))))))))))))))))))))))))))))))))))))))))))))
            intro V hV
            clear hL
            obtain ⟨gv, hFF⟩ : ∃ gv : Nat → Value, FF = putL [(79, gv 79), (80, gv 80), (81, gv 81), (82, gv 82), (83, gv 83), (84, gv 84), (85, gv 85), (86, gv 86), (87, gv 87), (88, gv 88), (89, gv 89), (90, gv 90), (91, gv 91), (92, gv 92), (93, gv 93), (94, gv 94), (95, gv 95), (96, gv 96), (97, gv 97), (98, gv 98), (99, gv 99), (100, gv 100), (101, gv 101), (102, gv 102), (103, gv 103), (104, gv 104), (105, gv 105), (106, gv 106), (107, gv 107), (108, gv 108), (109, gv 109), (110, gv 110), (111, gv 111), (112, gv 112), (113, gv 113), (114, gv 114), (115, gv 115), (116, gv 116), (117, gv 117), (118, gv 118), (119, gv 119), (120, gv 120), (121, gv 121), (122, .bool true)] AA := ⟨fun k => FF.tmps.getD k undef, by rw [HF.out, HA.out]; kernel_rfl⟩
            clear HF
            rw [HA.out] at hFF; clear HA
            simp only [putL, Act.put, List.setIfInBounds_toArray, List.set_cons_zero, List.set_cons_succ] at hFF
            subst hFF
            refine wpList_nil ?_
            have HBV := Lib.hid (HW1.out.trans (hV.mono HW1.out.size)); clear hV
            go_wp2_with fail
            go_ret
            exact ⟨ret_b HRR.out.symm, HBV.out⟩
          case neg =>
            obtain ⟨k, hk⟩ : ∃ k, nc = k + 1 := ⟨nc - 1, by have := List.length_pos_iff.2 hil; rw [HNC.out]; omega⟩
            obtain ⟨z, hz⟩ : ∃ z, x.l[k]? = some z := ⟨_, List.getElem?_eq_getElem (by rw [← HNC.out]; omega)⟩
            obtain ⟨cb, co, hCe, hai⟩ : ∃ b o, C = some ⟨b, o, none⟩ ∧ ∀ i u, x.l[i]? = some u → insAt wr b (o + i * 10) u := by
              rcases HIR.out with e | ⟨b, o, e, k⟩
              · exact absurd e hil
              · exact ⟨b, o, e, k⟩
            subst hCe
            have HZ0 := Lib.hid ((hai k z hz).below HBW1.out).c0
            have HAI := Lib.hid hai
            have HEND := Lib.hid (show endsW x.fn = decide (z.1.op = 12) by
              unfold endsW
              rw [HXL.out.2, last_get (n := k) (by rw [List.length_map, ← HNC.out, hk]), List.getElem?_map, hz]
              rfl)
            have HK := Lib.hid (show (nc : Int) = (k : Int) + 1 by omega)
            clear hil hk hz hai
            obtain ⟨bb0, hbb0⟩ : ∃ b : Bool, b = (decide (x.fn.params < 0)) := ⟨_, rfl⟩
            have Hbb0 := Lib.hid hbb0; clear hbb0
            obtain ⟨bb1, hbb1⟩ : ∃ b : Bool, b = (bb0 || (decide (6 < x.fn.params))) := ⟨_, rfl⟩
            have Hbb1 := Lib.hid hbb1; clear hbb1
            obtain ⟨bb2, hbb2⟩ : ∃ b : Bool, b = (bb1 || (decide (x.fn.vars < x.fn.params))) := ⟨_, rfl⟩
            have Hbb2 := Lib.hid hbb2; clear hbb2
            obtain ⟨bb3, hbb3⟩ : ∃ b : Bool, b = (bb2 || (decide (200 < x.fn.vars))) := ⟨_, rfl⟩
            have Hbb3 := Lib.hid hbb3; clear hbb3
            obtain ⟨bb4, hbb4⟩ : ∃ b : Bool, b = (bb3 || (decide ((nc : Int) < 1))) := ⟨_, rfl⟩
            have Hbb4 := Lib.hid hbb4; clear hbb4
            obtain ⟨bb5, hbb5⟩ : ∃ b : Bool, b = (bb4 || (decide (8000 < (nc : Int)))) := ⟨_, rfl⟩
            have Hbb5 := Lib.hid hbb5; clear hbb5
            obtain ⟨bb6, hbb6⟩ : ∃ b : Bool, b = (bb5 || ((z.1.op : Int) != 12)) := ⟨_, rfl⟩
            have Hbb6 := Lib.hid hbb6; clear hbb6
            refine wp_region_valsA [(none, .pointer (some ⟨wr.heap.size, 1, none⟩)), (none, .int .i64 x.fn.params), (none, .bool (decide (x.fn.params < 0))), (none, .bool bb0), (some (82, false), gd bb0 false (.pointer (some ⟨wr.heap.size, 1, none⟩))), (some (82, false), gd bb0 false (.int .i64 x.fn.params)), (some (82, false), gd bb0 false (.bool (decide (6 < x.fn.params)))), (none, .bool bb1), (none, .bool bb1), (some (87, false), gd bb1 false (.pointer (some ⟨wr.heap.size, 2, none⟩))), (some (87, false), gd bb1 false (.int .i64 x.fn.vars)), (some (87, false), gd bb1 false (.pointer (some ⟨wr.heap.size, 1, none⟩))), (some (87, false), gd bb1 false (.int .i64 x.fn.params)), (some (87, false), gd bb1 false (.bool (decide (x.fn.vars < x.fn.params)))), (none, .bool bb2), (none, .bool bb2), (some (94, false), gd bb2 false (.pointer (some ⟨wr.heap.size, 2, none⟩))), (some (94, false), gd bb2 false (.int .i64 x.fn.vars)), (some (94, false), gd bb2 false (.bool (decide (200 < x.fn.vars)))), (none, .bool bb3), (none, .bool bb3), (some (99, false), gd bb3 false (.pointer (some ⟨wr.heap.size, 3, none⟩))), (some (99, false), gd bb3 false (.slice (some ⟨cb, co, none⟩) nc cc)), (some (99, false), gd bb3 false (.int .i64 (nc : Int))), (some (99, false), gd bb3 false (.bool (decide ((nc : Int) < 1)))), (none, .bool bb4), (none, .bool bb4), (some (105, false), gd bb4 false (.pointer (some ⟨wr.heap.size, 3, none⟩))), (some (105, false), gd bb4 false (.slice (some ⟨cb, co, none⟩) nc cc)), (some (105, false), gd bb4 false (.int .i64 (nc : Int))), (some (105, false), gd bb4 false (.bool (decide (8000 < (nc : Int))))), (none, .bool bb5), (none, .bool bb5), (some (111, false), gd bb5 false (.pointer (some ⟨wr.heap.size, 3, none⟩))), (some (111, false), gd bb5 false (.slice (some ⟨cb, co, none⟩) nc cc)), (some (111, false), gd bb5 false (.pointer (some ⟨wr.heap.size, 3, none⟩))), (some (111, false), gd bb5 false (.slice (some ⟨cb, co, none⟩) nc cc)), (some (111, false), gd bb5 false (.int .i64 (nc : Int))), (some (111, false), gd bb5 false (.int .i64 (k : Int))), (some (111, false), gd bb5 false (.pointer (some ⟨cb, co + k * 10, none⟩))), (some (111, false), gd bb5 false (.pointer (some ⟨cb, co + k * 10, none⟩))), (some (111, false), gd bb5 false (.int .u8 (z.1.op : Int))), (some (111, false), gd bb5 false (.bool ((z.1.op : Int) != 12))), (none, .bool bb6)] mixed (by kernel_rfl) ?_
            intro FF AA hA hF
            have hL : HasL FF [(5, .pointer (some ⟨wr.heap.size, 0, none⟩)), (79, .pointer (some ⟨wr.heap.size, 1, none⟩)), (80, .int .i64 x.fn.params), (81, .bool (decide (x.fn.params < 0))), (82, .bool bb0), (83, gd bb0 false (.pointer (some ⟨wr.heap.size, 1, none⟩))), (84, gd bb0 false (.int .i64 x.fn.params)), (85, gd bb0 false (.bool (decide (6 < x.fn.params)))), (86, .bool bb1), (87, .bool bb1), (88, gd bb1 false (.pointer (some ⟨wr.heap.size, 2, none⟩))), (89, gd bb1 false (.int .i64 x.fn.vars)), (90, gd bb1 false (.pointer (some ⟨wr.heap.size, 1, none⟩))), (91, gd bb1 false (.int .i64 x.fn.params)), (92, gd bb1 false (.bool (decide (x.fn.vars < x.fn.params)))), (93, .bool bb2), (94, .bool bb2), (95, gd bb2 false (.pointer (some ⟨wr.heap.size, 2, none⟩))), (96, gd bb2 false (.int .i64 x.fn.vars)), (97, gd bb2 false (.bool (decide (200 < x.fn.vars)))), (98, .bool bb3), (99, .bool bb3), (100, gd bb3 false (.pointer (some ⟨wr.heap.size, 3, none⟩))), (101, gd bb3 false (.slice (some ⟨cb, co, none⟩) nc cc)), (102, gd bb3 false (.int .i64 (nc : Int))), (103, gd bb3 false (.bool (decide ((nc : Int) < 1)))), (104, .bool bb4), (105, .bool bb4), (106, gd bb4 false (.pointer (some ⟨wr.heap.size, 3, none⟩))), (107, gd bb4 false (.slice (some ⟨cb, co, none⟩) nc cc)), (108, gd bb4 false (.int .i64 (nc : Int))), (109, gd bb4 false (.bool (decide (8000 < (nc : Int))))), (110, .bool bb5), (111, .bool bb5), (112, gd bb5 false (.pointer (some ⟨wr.heap.size, 3, none⟩))), (113, gd bb5 false (.slice (some ⟨cb, co, none⟩) nc cc)), (114, gd bb5 false (.pointer (some ⟨wr.heap.size, 3, none⟩))), (115, gd bb5 false (.slice (some ⟨cb, co, none⟩) nc cc)), (116, gd bb5 false (.int .i64 (nc : Int))), (117, gd bb5 false (.int .i64 (k : Int))), (118, gd bb5 false (.pointer (some ⟨cb, co + k * 10, none⟩))), (119, gd bb5 false (.pointer (some ⟨cb, co + k * 10, none⟩))), (120, gd bb5 false (.int .u8 (z.1.op : Int))), (121, gd bb5 false (.bool ((z.1.op : Int) != 12))), (122, .bool bb6)] := by unfold HasL; rw [hF, hA]; kernel_rfl
            have HF := Lib.hid hF; clear hF; have HA := Lib.hid hA; clear hA
            refine ⟨?_, ?_⟩
            · intro V hV
              repeat clear ‹∀ (a : Act) (w : World), Code.wp Tryz.prog _ _ a w → _›
              have gff := gd_ff
              have gtt := gd_tt
              have hncb := HNCB.out
              have hnk := HK.out
              have hkw : IntKind.i64.wrap (k : Int) = k := IntWalk.i64_in _ (by omega)
              have hkl : ¬ ((k : Int) + 1 ≤ k) := by omega
              exact
              ResL.cons (OpRes.val (by have a5 := hL.at 0 rfl; go_simp)) (
              ResL.cons (OpRes.val (by have a79 := hL.at 1 rfl; have kk := get_b hV E1.out; go_simp)) (
              ResL.cons (OpRes.val (by have a80 := hL.at 2 rfl; go_simp)) (
              ResL.cons (OpRes.val (by rw [Hbb0.out]; have a81 := hL.at 3 rfl; go_simp)) (
              ResL.cons (OpRes.gval (hL.at 4 rfl) (fun e0 => by have a5 := hL.at 0 rfl; subst e0; go_simp)) (
              ResL.cons (OpRes.gval (hL.at 4 rfl) (fun e0 => by have a83 := hL.at 5 rfl; have kk := get_b hV E1.out; subst e0; go_simp)) (
              ResL.cons (OpRes.gval (hL.at 4 rfl) (fun e0 => by have a84 := hL.at 6 rfl; subst e0; go_simp)) (
              ResL.cons (OpRes.val (by rw [Hbb1.out]; have a82 := hL.at 4 rfl; have a85 := hL.at 7 rfl; cases bb0 <;> go_simp)) (
              ResL.cons (OpRes.val (by have a86 := hL.at 8 rfl; go_simp)) (
              ResL.cons (OpRes.gval (hL.at 9 rfl) (fun e0 => by have a5 := hL.at 0 rfl; subst e0; go_simp)) (
              ResL.cons (OpRes.gval (hL.at 9 rfl) (fun e0 => by have a88 := hL.at 10 rfl; have kk := get_b hV E2.out; subst e0; go_simp)) (
              ResL.cons (OpRes.gval (hL.at 9 rfl) (fun e0 => by have a5 := hL.at 0 rfl; subst e0; go_simp)) (
              ResL.cons (OpRes.gval (hL.at 9 rfl) (fun e0 => by have a90 := hL.at 12 rfl; have kk := get_b hV E1.out; subst e0; go_simp)) (
              ResL.cons (OpRes.gval (hL.at 9 rfl) (fun e0 => by have a89 := hL.at 11 rfl; have a91 := hL.at 13 rfl; subst e0; go_simp)) (
              ResL.cons (OpRes.val (by rw [Hbb2.out]; have a87 := hL.at 9 rfl; have a92 := hL.at 14 rfl; cases bb1 <;> go_simp)) (
              ResL.cons (OpRes.val (by have a93 := hL.at 15 rfl; go_simp)) (
              ResL.cons (OpRes.gval (hL.at 16 rfl) (fun e0 => by have a5 := hL.at 0 rfl; subst e0; go_simp)) (
              ResL.cons (OpRes.gval (hL.at 16 rfl) (fun e0 => by have a95 := hL.at 17 rfl; have kk := get_b hV E2.out; subst e0; go_simp)) (
              ResL.cons (OpRes.gval (hL.at 16 rfl) (fun e0 => by have a96 := hL.at 18 rfl; subst e0; go_simp)) (
              ResL.cons (OpRes.val (by rw [Hbb3.out]; have a94 := hL.at 16 rfl; have a97 := hL.at 19 rfl; cases bb2 <;> go_simp)) (
              ResL.cons (OpRes.val (by have a98 := hL.at 20 rfl; go_simp)) (
              ResL.cons (OpRes.gval (hL.at 21 rfl) (fun e0 => by have a5 := hL.at 0 rfl; subst e0; go_simp)) (
              ResL.cons (OpRes.gval (hL.at 21 rfl) (fun e0 => by have a100 := hL.at 22 rfl; have kk := get_b hV E3.out; subst e0; go_simp)) (
              ResL.cons (OpRes.gval (hL.at 21 rfl) (fun e0 => by have a101 := hL.at 23 rfl; subst e0; go_simp)) (
              ResL.cons (OpRes.gval (hL.at 21 rfl) (fun e0 => by have a102 := hL.at 24 rfl; subst e0; go_simp)) (
              ResL.cons (OpRes.val (by rw [Hbb4.out]; have a99 := hL.at 21 rfl; have a103 := hL.at 25 rfl; cases bb3 <;> go_simp)) (
              ResL.cons (OpRes.val (by have a104 := hL.at 26 rfl; go_simp)) (
              ResL.cons (OpRes.gval (hL.at 27 rfl) (fun e0 => by have a5 := hL.at 0 rfl; subst e0; go_simp)) (
              ResL.cons (OpRes.gval (hL.at 27 rfl) (fun e0 => by have a106 := hL.at 28 rfl; have kk := get_b hV E3.out; subst e0; go_simp)) (
              ResL.cons (OpRes.gval (hL.at 27 rfl) (fun e0 => by have a107 := hL.at 29 rfl; subst e0; go_simp)) (
              ResL.cons (OpRes.gval (hL.at 27 rfl) (fun e0 => by have a108 := hL.at 30 rfl; subst e0; go_simp)) (
              ResL.cons (OpRes.val (by rw [Hbb5.out]; have a105 := hL.at 27 rfl; have a109 := hL.at 31 rfl; cases bb4 <;> go_simp)) (
              ResL.cons (OpRes.val (by have a110 := hL.at 32 rfl; go_simp)) (
              ResL.cons (OpRes.gval (hL.at 33 rfl) (fun e0 => by have a5 := hL.at 0 rfl; subst e0; go_simp)) (
              ResL.cons (OpRes.gval (hL.at 33 rfl) (fun e0 => by have a112 := hL.at 34 rfl; have kk := get_b hV E3.out; subst e0; go_simp)) (
              ResL.cons (OpRes.gval (hL.at 33 rfl) (fun e0 => by have a5 := hL.at 0 rfl; subst e0; go_simp)) (
              ResL.cons (OpRes.gval (hL.at 33 rfl) (fun e0 => by have a114 := hL.at 36 rfl; have kk := get_b hV E3.out; subst e0; go_simp)) (
              ResL.cons (OpRes.gval (hL.at 33 rfl) (fun e0 => by have a115 := hL.at 37 rfl; subst e0; go_simp)) (
              ResL.cons (OpRes.gval (hL.at 33 rfl) (fun e0 => by have a116 := hL.at 38 rfl; subst e0; go_simp)) (
              ResL.cons (OpRes.gval (hL.at 33 rfl) (fun e0 => by have a113 := hL.at 35 rfl; have a117 := hL.at 39 rfl; subst e0; go_simp)) (
              ResL.cons (OpRes.gval (hL.at 33 rfl) (fun e0 => by have a118 := hL.at 40 rfl; subst e0; go_simp)) (
              ResL.cons (OpRes.gval (hL.at 33 rfl) (fun e0 => by have a119 := hL.at 41 rfl; have kk := get_b hV HZ0.out; subst e0; go_simp)) (
              ResL.cons (OpRes.gval (hL.at 33 rfl) (fun e0 => by have a120 := hL.at 42 rfl; subst e0; go_simp)) (
              ResL.cons (OpRes.val (by rw [Hbb6.out]; have a111 := hL.at 33 rfl; have a121 := hL.at 43 rfl; cases bb5 <;> go_simp)) (
              ResL.nil))))))))))))))))))))))))))))))))))))))))))))
            intro V hV
            clear hL
            obtain ⟨gv, hFF⟩ : ∃ gv : Nat → Value, FF = putL [(79, gv 79), (80, gv 80), (81, gv 81), (82, gv 82), (83, gv 83), (84, gv 84), (85, gv 85), (86, gv 86), (87, gv 87), (88, gv 88), (89, gv 89), (90, gv 90), (91, gv 91), (92, gv 92), (93, gv 93), (94, gv 94), (95, gv 95), (96, gv 96), (97, gv 97), (98, gv 98), (99, gv 99), (100, gv 100), (101, gv 101), (102, gv 102), (103, gv 103), (104, gv 104), (105, gv 105), (106, gv 106), (107, gv 107), (108, gv 108), (109, gv 109), (110, gv 110), (111, gv 111), (112, gv 112), (113, gv 113), (114, gv 114), (115, gv 115), (116, gv 116), (117, gv 117), (118, gv 118), (119, gv 119), (120, gv 120), (121, gv 121), (122, .bool bb6)] AA := ⟨fun k => FF.tmps.getD k undef, by rw [HF.out, HA.out]; kernel_rfl⟩
            clear HF
            rw [HA.out] at hFF; clear HA
            simp only [putL, Act.put, List.setIfInBounds_toArray, List.set_cons_zero, List.set_cons_succ] at hFF
            subst hFF
            refine wpList_nil ?_
            have HBV := Lib.hid (HB1.out.trans (hV.mono HB1.out.size))
            have HWV := Lib.hid (HW1.out.trans (hV.mono HW1.out.size))
            have HRV := Lib.hid (HBW1.out.trans (hV.mono HBW1.out.size))
            have G0 := Lib.hid (get_b hV E0.out); have G1 := Lib.hid (get_b hV E1.out); have G2 := Lib.hid (get_b hV E2.out); have G3 := Lib.hid (get_b hV E3.out)
            have hcond : bb6 = !(decide (0 ≤ x.fn.params ∧ x.fn.params ≤ 6 ∧ x.fn.params ≤ x.fn.vars ∧ x.fn.vars ≤ 200 ∧ nc ≤ 8000) && endsW x.fn) := by
              have qbb0 := Hbb0.out; have qbb1 := Hbb1.out; have qbb2 := Hbb2.out; have qbb3 := Hbb3.out; have qbb4 := Hbb4.out; have qbb5 := Hbb5.out; have qbb6 := Hbb6.out
              subst qbb6 qbb5 qbb4 qbb3 qbb2 qbb1 qbb0
              rw [HEND.out]
              have hk := HK.out
              have g6 : decide ((nc : Int) < 1) = false := decide_eq_false (by omega)
              have g7 : ((z.1.op : Int) != 12) = !decide (z.1.op = 12) := by
                rw [bne, Bool.beq_eq_decide_eq]; congr 1; exact decide_eq_decide.2 (by omega)
              rw [g6, g7]
              by_cases h5 : (0 ≤ x.fn.params ∧ x.fn.params ≤ 6 ∧ x.fn.params ≤ x.fn.vars ∧ x.fn.vars ≤ 200 ∧ nc ≤ 8000)
              · rw [decide_eq_false (show ¬ x.fn.params < 0 by omega), decide_eq_false (show ¬ 6 < x.fn.params by omega), decide_eq_false (show ¬ x.fn.vars < x.fn.params by omega), decide_eq_false (show ¬ 200 < x.fn.vars by omega), decide_eq_false (show ¬ 8000 < (nc : Int) by omega), decide_eq_true h5]
                simp
              · rw [decide_eq_false h5]
                have h6 : x.fn.params < 0 ∨ 6 < x.fn.params ∨ x.fn.vars < x.fn.params ∨ 200 < x.fn.vars ∨ 8000 < (nc : Int) := by omega
                rcases h6 with h | h | h | h | h <;> rw [decide_eq_true h] <;> simp
            cases hbb : bb6 with
            | true =>
              have HRR := Lib.hid (show res = false by
                have e : (l.any fun f => !fnW p f.fn) = true := List.any_eq_true.2 ⟨x, List.mem_of_getElem? HX.out, by
                  rw [HFN.out]
                  rw [hbb] at hcond
                  revert hcond
                  cases (decide (0 ≤ x.fn.params ∧ x.fn.params ≤ 6 ∧ x.fn.params ≤ x.fn.vars ∧ x.fn.vars ≤ 200 ∧ nc ≤ 8000) && endsW x.fn) <;> simp⟩
                rw [HE2.out, e]
                rfl)
              clear hcond hbb hV
              go_wp2_with fail
              go_ret
              exact ⟨ret_b HRR.out.symm, HWV.out⟩
            | false =>
              have HFN2 := Lib.hid (show fnW p x.fn = !(x.l.any fun u => !oneW p x.fn u.1) by
                rw [HFN.out]
                rw [hbb] at hcond
                revert hcond
                cases (decide (0 ≤ x.fn.params ∧ x.fn.params ≤ 6 ∧ x.fn.params ≤ x.fn.vars ∧ x.fn.vars ≤ 200 ∧ nc ≤ 8000) && endsW x.fn) <;> simp)
              clear hcond hbb hV HFN HEND HK HZ0 E0 E1 E2 E3 HW1 HBW1 HB1 Hbb0 Hbb1 Hbb2 Hbb3 Hbb4 Hbb5 Hbb6
              go_wp2_with fail
              obtain ⟨ko, hko⟩ : ∃ ko, gk = ko + 1 := ⟨gk - 1, by omega⟩
              subst hko
              obtain ⟨bx, hbx⟩ : ∃ b, b = wr.heap.size := ⟨_, rfl⟩
              rw [← hbx] at G0 G1 G2 G3 ⊢
              clear hbx
              go_loopg [6] nc (fun gk v wr => ∃ j : Nat, j ≤ nc ∧ nc - j ≤ gk ∧ v = .int .i64 j ∧ Hid (Below V.heap.size V wr) ∧ Hid ((x.l.take j).any (fun u => !oneW p x.fn u.1) = false))
              case atStart => exact ⟨0, Nat.zero_le _, Nat.le_refl _, rfl, Lib.hid (Below.refl _ _), Lib.hid (by simp)⟩
              case round =>
                obtain ⟨j, hj, hgk2, rfl, HB3, HI3⟩ := hrel
                have e0 := get_b HB3.out G0.out; have e1 := get_b HB3.out G1.out; have e2 := get_b HB3.out G2.out; have e3 := get_b HB3.out G3.out
                have le := cell_lt' e3
                by_cases hlj : j < nc
                case neg =>
                  have q : decide ((j : Int) < (nc : Int)) = false := decide_eq_false (by omega)
                  have HI4 := Lib.hid (take_any_no HI.out HX.out (show (!fnW p x.fn) = false by
                    have e := HI3.out
                    rw [List.take_of_length_le (by rw [← HNC.out]; omega)] at e
                    rw [HFN2.out, e]
                    rfl))
                  have hnlb := HNLB.out
                  clear e0 e1 e2 hgk2
                  go_wp2_with fail
                  go_roundg ko
                  case measure => omega
                  case rel => exact ⟨i + 1, by omega, by omega, by simp, Lib.hid (HBV.out.trans (HB3.out.mono HBV.out.size)), HI4⟩
                case pos =>
                  have q : decide ((j : Int) < (nc : Int)) = true := decide_eq_true (by omega)
                  obtain ⟨u, hu⟩ : ∃ u, x.l[j]? = some u := ⟨_, List.getElem?_eq_getElem (by rw [← HNC.out]; exact hlj)⟩
                  have HU := Lib.hid ((HAI.out j u hu).below (HRV.out.trans (HB3.out.mono HRV.out.size)))
                  have HUU := Lib.hid hu; have HJJ := Lib.hid (show (j : Int) < (nc : Int) by omega)
                  obtain ⟨hb, ho, hhe⟩ : ∃ hb ho, (some ⟨fb, fo, none⟩ : Option Addr) = some ⟨hb, ho, none⟩ := ⟨_, _, rfl⟩
                  have d0 := get_b HB3.out (get_b HBV.out F0.out); have d1 := get_b HB3.out (get_b HBV.out F1.out); have d2 := get_b HB3.out (get_b HBV.out F2.out)
                  obtain ⟨bu, hbu⟩ : ∃ b, b = oneW p x.fn u.1 := ⟨_, rfl⟩
                  have hcall := fun Y hY => HONE.out x u Y (List.mem_of_getElem? HX.out) (List.mem_of_getElem? hu) ((HWV.out.trans (HB3.out.mono HWV.out.size)).trans (hY : Below _ _ Y)) HXC.out
                  rw [← hbu, HCV.out, ← HNC.out] at hcall
                  rw [hhe] at hcall d1
                  unfold insV at hcall
                  have HCALL := Lib.hid (fun Y (hY : Below wr.heap.size wr Y) => hcall Y (hY.mono (Nat.le_trans HWV.out.size HB3.out.size)))
                  have HBU := Lib.hid hbu
                  clear hu hcall hbu
                  go_upto_region 17 with fail
                  clear e3 le
                  have e3 := get_b HB3.out G3.out
                  refine wp_region_valsA [(none, .agg #[.slice A na ca, .slice (some ⟨hb, ho, none⟩) nl cf, .int .i64 p.main]), (none, .agg #[.string ⟨x.fn.name.toArray⟩, .int .i64 x.fn.params, .int .i64 x.fn.vars, .slice (some ⟨cb, co, none⟩) nc cc]), (none, .pointer (some ⟨bx, 3, none⟩)), (none, .slice (some ⟨cb, co, none⟩) nc cc), (none, .int .i64 (j : Int)), (none, .pointer (some ⟨cb, co + j * 10, none⟩)), (none, .agg #[.int .u8 u.1.op, .int .i64 u.1.v, .int .i64 u.1.a, .int .i64 u.1.b, .int .i64 u.1.n, .int .u8 u.1.bin, u.2, .int .i64 u.1.f, .int .i64 u.1.arr, .int .i64 u.1.to]), (none, .bool bu), (none, .bool (!bu))] mixed (by kernel_rfl) ?_
                  intro FF AA hA hF
                  have hL : HasL FF [(1, .pointer (some ⟨w.heap.size, 0, none⟩)), (5, .pointer (some ⟨bx, 0, none⟩)), (6, .int .i64 (j : Int)), (130, .agg #[.slice A na ca, .slice (some ⟨hb, ho, none⟩) nl cf, .int .i64 p.main]), (131, .agg #[.string ⟨x.fn.name.toArray⟩, .int .i64 x.fn.params, .int .i64 x.fn.vars, .slice (some ⟨cb, co, none⟩) nc cc]), (132, .pointer (some ⟨bx, 3, none⟩)), (133, .slice (some ⟨cb, co, none⟩) nc cc), (134, .int .i64 (j : Int)), (135, .pointer (some ⟨cb, co + j * 10, none⟩)), (136, .agg #[.int .u8 u.1.op, .int .i64 u.1.v, .int .i64 u.1.a, .int .i64 u.1.b, .int .i64 u.1.n, .int .u8 u.1.bin, u.2, .int .i64 u.1.f, .int .i64 u.1.arr, .int .i64 u.1.to]), (137, .bool bu), (138, .bool (!bu))] := by unfold HasL; rw [hF, hA]; kernel_rfl
                  have HF := Lib.hid hF; clear hF; have HA := Lib.hid hA; clear hA
                  refine ⟨?_, ?_⟩
                  · intro Y hY
                    repeat clear ‹∀ (a : Act) (w : World), Code.wp Tryz.prog _ _ a w → _›
                    have gff := gd_ff
                    have gtt := gd_tt
                    have hj0 := HJJ.out
                    exact
                    ResL.cons (OpRes.val (by have a1 := hL.at 0 rfl; have s0 := get_b hY d0; have s1 := get_b hY d1; have s2 := get_b hY d2; go_simp)) (
                    ResL.cons (OpRes.val (by have a5 := hL.at 1 rfl; have s0 := get_b hY e0; have s1 := get_b hY e1; have s2 := get_b hY e2; have s3 := get_b hY e3; go_simp)) (
                    ResL.cons (OpRes.val (by have a5 := hL.at 1 rfl; go_simp)) (
                    ResL.cons (OpRes.val (by have a132 := hL.at 5 rfl; have kk := get_b hY e3; go_simp)) (
                    ResL.cons (OpRes.val (by have a6 := hL.at 2 rfl; go_simp)) (
                    ResL.cons (OpRes.val (by have a133 := hL.at 6 rfl; have a134 := hL.at 7 rfl; go_simp)) (
                    ResL.cons (OpRes.val (by have a135 := hL.at 8 rfl; have s0 := get_b hY HU.out.c0; have s1 := get_b hY HU.out.c1; have s2 := get_b hY HU.out.c2; have s3 := get_b hY HU.out.c3; have s4 := get_b hY HU.out.c4; have s5 := get_b hY HU.out.c5; have s6 := get_b hY HU.out.c6; have s7 := get_b hY HU.out.c7; have s8 := get_b hY HU.out.c8; have s9 := get_b hY HU.out.c9; go_simp)) (
                    ResL.cons (OpRes.call 49 #[.agg #[.slice A na ca, .slice (some ⟨hb, ho, none⟩) nl cf, .int .i64 p.main], .agg #[.string ⟨x.fn.name.toArray⟩, .int .i64 x.fn.params, .int .i64 x.fn.vars, .slice (some ⟨cb, co, none⟩) nc cc], .agg #[.int .u8 u.1.op, .int .i64 u.1.v, .int .i64 u.1.a, .int .i64 u.1.b, .int .i64 u.1.n, .int .u8 u.1.bin, u.2, .int .i64 u.1.f, .int .i64 u.1.arr, .int .i64 u.1.to]] (by have a130 := hL.at 3 rfl; have a131 := hL.at 4 rfl; have a136 := hL.at 9 rfl; go_simp) (HCALL.out Y hY)) (
                    ResL.cons (OpRes.val (by have a137 := hL.at 10 rfl; go_simp)) (
                    ResL.nil)))))))))
                  intro Y hY
                  clear hL
                  obtain ⟨gy, hFF⟩ : ∃ gy : Nat → Value, FF = putL [(130, gy 130), (131, gy 131), (132, gy 132), (133, gy 133), (134, gy 134), (135, gy 135), (136, gy 136), (137, gy 137), (138, .bool (!bu))] AA := ⟨fun k => FF.tmps.getD k undef, by rw [HF.out, HA.out]; kernel_rfl⟩
                  clear HF
                  rw [HA.out] at hFF; clear HA
                  simp only [putL, Act.put, List.setIfInBounds_toArray, List.set_cons_zero, List.set_cons_succ] at hFF
                  subst hFF
                  refine wpList_nil ?_
                  have HBY := Lib.hid (HB3.out.trans (hY.mono HB3.out.size)); clear hY
                  cases hbuu : bu with
                  | false =>
                    have HRR := Lib.hid (show res = false by
                      have e : (l.any fun f => !fnW p f.fn) = true := List.any_eq_true.2 ⟨x, List.mem_of_getElem? HX.out, by
                        have e2 : (x.l.any fun u => !oneW p x.fn u.1) = true := List.any_eq_true.2 ⟨u, List.mem_of_getElem? HUU.out, by rw [← HBU.out, hbuu]; rfl⟩
                        rw [HFN2.out, e2]; rfl⟩
                      rw [HE2.out, e]
                      rfl)
                    clear hbuu HCALL d0 d1 d2 e0 e1 e2 e3
                    go_wp2_with fail
                    go_ret
                    exact ⟨ret_b HRR.out.symm, HWV.out.trans (HBY.out.mono HWV.out.size)⟩
                  | true =>
                    have HI5 := Lib.hid (take_any_no HI3.out HUU.out (show (!oneW p x.fn u.1) = false by rw [← HBU.out, hbuu]; rfl))
                    have hncb := HNCB.out
                    clear hbuu HCALL d0 d1 d2 e0 e1 e2 e3
                    go_wp2_with fail
                    cases gk with
                    | zero => omega
                    | succ gk =>
                      go_roundg gk
                      case measure => omega
                      case rel => exact ⟨j + 1, by omega, by omega, by simp, HBY, HI5⟩
end Go.Proofs.YtgdibfnpkcdiiaaGreatDoor

/- An instruction's numbers (three's numbers), as a row. By an AI agent. -/
namespace Go.Proofs.YtgdibfnpkcdiiaaGreatDoor
open Go.RowKit

theorem own_form {w : World} {base e size n : Nat} {v : Value} {xs : List Value} (h : w.ownsRow base e size v n xs) : ∃ A c, v = .slice A n c := by
  rcases h.2 with ⟨rfl, rfl⟩ | ⟨g, cap, cur, rfl, _⟩
  · exact ⟨_, _, rfl⟩
  · exact ⟨_, _, rfl⟩
theorem own_new (w : World) (t : TypeId) (cs : Array Value) (k n base : Nat) (hk : cs.size = n * k) (hb : base ≤ w.heap.size) (hn : n ≤ maxLen) : (w.alloc (.cells cs t)).ownsRow base t k (.slice (some ⟨w.heap.size, 0, none⟩) n n) n cs.toList := by
  refine ⟨by simp [hk], Or.inr ⟨w.heap.size, n, cs, rfl, hb, heap_alloc_new w _, Nat.le_refl _, hn, hk, ?_⟩⟩
  exact List.take_of_length_le (by simp [hk])
theorem own_below {w w' : World} {base e size n : Nat} {v : Value} {xs : List Value} (h : w.ownsRow base e size v n xs) (hb : Below w.heap.size w w') : w'.ownsRow base e size v n xs :=
  h.kept (row := none) ⟨hb.os, hb.tape, hb.output, hb.size, fun j hj _ => hb.block j hj⟩ (by cases hv : v.ownBlock <;> simp)
def intC (l : List Int) : List Value := l.map fun k => .int .i64 k
theorem ints_own {w : World} {base e n : Nat} {v : Value} {ks : List Int} (h : w.ownsRow base e 1 v n (intC ks)) : ks.length = n ∧ IntsV w v ks := by
  have hl : ks.length = n := by have := h.1; simpa [intC] using this
  refine ⟨hl, ?_⟩
  rcases h.2 with ⟨rfl, h0⟩ | ⟨g, cap, cur, rfl, _, hg, hcap, _, hsz, htk⟩
  · have : ks = [] := List.length_eq_zero_iff.1 (by omega)
    subst this
    exact ⟨none, 0, rfl, Nat.le_refl _, Or.inl rfl⟩
  · subst hl
    refine ⟨_, cap, rfl, hcap, Or.inr ⟨g, 0, rfl, fun i x hx => ?_⟩⟩
    have h1 : (intC ks)[i]? = some (.int .i64 x) := by simp [intC, hx]
    have hi := (List.getElem?_eq_some_iff.1 hx).1
    rw [← htk, List.getElem?_take, if_pos (by omega)] at h1
    show World.cell? _ _ = _
    unfold World.cell?
    simp only [hg]
    simpa using h1
theorem info2 : (Tryz.prog.info? 2).map (fun i => (i.zero, i.size, i.bytes)) = some (some (.int .i64 0), 1, 8) := by kernel_rfl

set_option maxRecDepth 100000 in
set_option maxHeartbeats 8000000 in
theorem nums_own (x : InV) (w : World) (hx : IntsV w x.2 x.1.args) (hal : x.1.args.length ≤ 1000000) (ho : x.1.op < 256) (hbn : x.1.bin < 256) :
    Calls Tryz.prog 54 #[insV x] w fun e w' => ∃ v, e = .returned v ∧ w'.ownsRow (w.heap.size + 1) 2 1 v (numbersW x.1).length (intC (numbersW x.1)) ∧ Below w.heap.size w w' := by
  obtain ⟨x, xv⟩ := x
  obtain ⟨X, cx, hxv, hcx, hxr⟩ := hx
  dsimp only at hxv hcx hxr hal ho hbn
  subst hxv
  obtain ⟨ng, hng⟩ : ∃ n, n = x.args.length := ⟨_, rfl⟩
  unfold insV
  dsimp only
  rw [← hng]
  have HNG := Lib.hid hng; have HXR := Lib.hid hxr; have HAL := Lib.hid hal
  have w1 : IntKind.i64.wrap (x.op : Int) = x.op := IntWalk.i64_in _ (by omega)
  have w2 : IntKind.i64.wrap (x.bin : Int) = x.bin := IntWalk.i64_in _ (by omega)
  obtain ⟨i0, hi0, hz0, hz1, hz2⟩ := info_parts info2
  clear hng hxr hcx hal
  go_enter Tryz.func54, Tryz.ntmps54
  go_wp2_with fail
  have hb1 : Below w.heap.size w (w.alloc (.cells #[.int .u8 x.op, .int .i64 x.v, .int .i64 x.a, .int .i64 x.b, .int .i64 x.n, .int .u8 x.bin, .slice X ng cx, .int .i64 x.f, .int .i64 x.arr, .int .i64 x.to] 71)) := (Below.refl _ _).alloc (Nat.le_refl _) _
  have c6 := (Blk.new w 71 #[.int .u8 x.op, .int .i64 x.v, .int .i64 x.a, .int .i64 x.b, .int .i64 x.n, .int .u8 x.bin, .slice X ng cx, .int .i64 x.f, .int .i64 x.arr, .int .i64 x.to]).cell 6
  obtain ⟨W1, hW1⟩ : ∃ W1, W1 = w.alloc (.cells #[.int .u8 x.op, .int .i64 x.v, .int .i64 x.a, .int .i64 x.b, .int .i64 x.n, .int .u8 x.bin, .slice X ng cx, .int .i64 x.f, .int .i64 x.arr, .int .i64 x.to] 71) := ⟨_, rfl⟩
  have hs1 : W1.heap.size = w.heap.size + 1 := by rw [hW1]; simp
  rw [← hW1] at hb1 ⊢
  clear hW1 c6
  have hown := own_new W1 2 #[.int .i64 x.op, .int .i64 x.v, .int .i64 x.a, .int .i64 x.b, .int .i64 x.n, .int .i64 x.bin, .int .i64 x.f, .int .i64 x.arr, .int .i64 x.to] 1 9 (w.heap.size + 1) rfl (by omega) (by unfold maxLen; omega)
  have hb2 : Below W1.heap.size W1 (W1.alloc (.cells #[.int .i64 x.op, .int .i64 x.v, .int .i64 x.a, .int .i64 x.b, .int .i64 x.n, .int .i64 x.bin, .int .i64 x.f, .int .i64 x.arr, .int .i64 x.to] 2)) := (Below.refl _ _).alloc (Nat.le_refl _) _
  obtain ⟨W2, hW2⟩ : ∃ W2, W2 = W1.alloc (.cells #[.int .i64 x.op, .int .i64 x.v, .int .i64 x.a, .int .i64 x.b, .int .i64 x.n, .int .i64 x.bin, .int .i64 x.f, .int .i64 x.arr, .int .i64 x.to] 2) := ⟨_, rfl⟩
  rw [← hW2] at hown hb2 ⊢
  rw [hs1] at hown
  clear hW2
  have HB2 := Lib.hid (hb1.trans (hb2.mono (by omega)))
  have HS2 := Lib.hid (show w.heap.size + 1 ≤ W2.heap.size by have := hb2.size; omega)
  have HOWN := Lib.hid (show W2.ownsRow (w.heap.size + 1) 2 1 (.slice (some ⟨w.heap.size + 1, 0, none⟩) 9 9) 9 (intC (numbersW { x with args := [] })) from hown)
  clear hb1 hb2 hown hs1
  go_loopg [3, 30] ng (fun gk v i wr => ∃ k : Nat, k ≤ ng ∧ ng - k ≤ gk ∧ i = .int .i64 k ∧ Hid (Below (w.heap.size + 1) W2 wr) ∧ Hid (wr.ownsRow (w.heap.size + 1) 2 1 v (9 + k) (intC (numbersW { x with args := x.args.take k }))))
  case atStart => exact ⟨0, Nat.zero_le _, Nat.le_refl _, rfl, Lib.hid (Below.refl _ _), HOWN⟩
  case round =>
    obtain ⟨k, hk, hgk, rfl, HB, HO⟩ := hrel
    by_cases hlt : k < ng
    case neg =>
      have q : decide ((k : Int) < (ng : Int)) = false := decide_eq_false (by omega)
      obtain ⟨A, c, hvv⟩ := own_form HO.out
      have hall : x.args.take k = x.args := List.take_of_length_le (by rw [← HNG.out]; omega)
      have ho2 := HO.out
      rw [hall] at ho2
      have hnl : 9 + k = (numbersW x).length := by simp [numbersW]; have := HNG.out; omega
      rw [hnl] at ho2
      have HI := Lib.hid ho2
      subst hvv
      clear ho2 hall hnl
      go_wp2_with fail
      go_ret
      exact ⟨_, rfl, HI.out, HB2.out.trans (HB.out.mono (by omega))⟩
    case pos =>
      have q : decide ((k : Int) < (ng : Int)) = true := decide_eq_true (by omega)
      obtain ⟨y, hy⟩ : ∃ y, x.args[k]? = some y := ⟨_, List.getElem?_eq_getElem (by rw [← HNG.out]; exact hlt)⟩
      obtain ⟨xb, xo, rfl, hat⟩ : ∃ b o, X = some ⟨b, o, none⟩ ∧ wr.cell? ⟨b, o + k * 1, none⟩ = some (.int .i64 y) := by
        rcases HXR.out with e | ⟨b, o, e, q⟩
        · rw [e] at hy; simp at hy
        · exact ⟨b, o, e, (HB.out.cell (p := ⟨b, o + k * 1, none⟩) (Nat.lt_succ_of_lt (cell_lt' (q k y hy)))).trans (get_b HB2.out (q k y hy))⟩
      rw [Nat.mul_one] at hat
      have hkk : (k : Int) < (ng : Int) := by omega
      have lb := cell_lt' hat
      have hngb : ng ≤ 1000000 := by rw [HNG.out]; exact HAL.out
      have HTK := Lib.hid (show intC (numbersW { x with args := x.args.take (k + 1) }) = intC (numbersW { x with args := x.args.take k }) ++ [.int .i64 y] by
        rw [List.take_add_one, hy]
        simp [intC, numbersW])
      have HSZ := Lib.hid (Nat.le_trans HS2.out HB.out.size)
      clear hy
      go_wp2_with (at_builtin; refine wpList_append_own _ rfl _ _ 40 rfl (w.heap.size + 1) 2 i0 (.int .i64 0) 1 8 Tryz.underlying40 hi0 hz0 hz1 hz2 rfl (by decide) _ _ _ rfl (HO.out.alloc _) ⟨wr.heap.size, 0, none⟩ 1 1 [.int .i64 y] rfl rfl (World.news_of_block (cs := #[.int .i64 y]) (t := 2) (fr := (0, 0)) (heap_alloc_new wr _)) (by simp [Value.oneCell']) (by unfold maxLen; omega) (by omega) ?_ ?_)
      · have := HSZ.out; simp; omega
      intro v' w6 hown6 hgrow _
      go_wp2_with fail
      cases gk with
      | zero => omega
      | succ gk =>
        go_roundg gk
        case measure => omega
        case rel =>
          refine ⟨k + 1, by omega, by omega, by simp, Lib.hid ((HB.out.alloc HSZ.out _).grown hgrow (by have := HSZ.out; simp; omega) (fun q e => (HO.out.lt q e).1)), Lib.hid ?_⟩
          rw [HTK.out]
          exact hown6
theorem nums_any (x : InV) (w : World) (hx : IntsV w x.2 x.1.args) (hal : x.1.args.length ≤ 1000000) (ho : x.1.op < 256) (hbn : x.1.bin < 256) :
    Calls Tryz.prog 54 #[insV x] w fun e w' => ∃ v, e = .returned v ∧ IntsV w' v (numbersW x.1) ∧ Below w.heap.size w w' :=
  (nums_own x w hx hal ho hbn).mono fun _ _ ⟨v, h1, h2, h3⟩ => ⟨v, h1, (ints_own h2).2, h3⟩
end Go.Proofs.YtgdibfnpkcdiiaaGreatDoor
