/- Joint text: HRightA, HRightB, HRightC. By an AI agent. -/
import Derived.Test.YtgdibfnpkcdiiaaGreatDoorJB
import Derived.Test.YtgdibfnpkcdiiaaGreatDoorJA
import Derived.Deep.DeepCutAuto
/- Is a program right: the closures of three's Right. By an AI agent. -/
namespace Go.Proofs.YtgdibfnpkcdiiaaGreatDoor
open Go.RowKit

/-- Small enough, and its numbers those of bytes. -/
structure PrS (p : PrW) : Prop where
  arrays : p.arrays.length ≤ 1000000
  fns : p.fns.length ≤ 1000000
  code : ∀ f ∈ p.fns, f.code.length ≤ 1000000
  args : ∀ f ∈ p.fns, ∀ x ∈ f.code, x.args.length ≤ 1000000
  op : ∀ f ∈ p.fns, ∀ x ∈ f.code, x.op < 256
set_option maxHeartbeats 1000000 in
theorem far_any (n : Int) (w : World) : Calls Tryz.prog 43 #[.int .i64 n] w fun e w' => e = .returned (.bool (!decide (1 ≤ n ∧ n ≤ 4096))) ∧ Below w.heap.size w w' := by
  obtain ⟨r, hr⟩ : ∃ r, r = !decide (1 ≤ n ∧ n ≤ 4096) := ⟨_, rfl⟩
  rw [← hr]
  have HR := Lib.hid hr; clear hr
  by_cases h1 : n < 1
  · have q1 : decide (n < 1) = true := decide_eq_true h1
    go_enter Tryz.func43, Tryz.ntmps43
    go_wp2_with fail
    go_ret
    exact ⟨ret_b (by rw [HR.out, decide_eq_false (show ¬ (1 ≤ n ∧ n ≤ 4096) by omega)]; rfl), Below.refl _ _⟩
  · have q1 : decide (n < 1) = false := decide_eq_false h1
    by_cases h2 : 4096 < n
    · have q2 : decide (4096 < n) = true := decide_eq_true h2
      go_enter Tryz.func43, Tryz.ntmps43
      go_wp2_with fail
      go_ret
      exact ⟨ret_b (by rw [HR.out, decide_eq_false (show ¬ (1 ≤ n ∧ n ≤ 4096) by omega)]; rfl), Below.refl _ _⟩
    · have q2 : decide (4096 < n) = false := decide_eq_false h2
      go_enter Tryz.func43, Tryz.ntmps43
      go_wp2_with fail
      go_ret
      exact ⟨ret_b (by rw [HR.out, decide_eq_true (show 1 ≤ n ∧ n ≤ 4096 by omega)]; rfl), Below.refl _ _⟩
theorem enter43 (a : Value) (W : World) : (callFunc 43 #[a]).run Tryz.prog W = .ok (.enter 43 #[a]) W := by kernel_rfl
theorem enter45 (a p : Value) (W : World) : (callFunc 45 #[a, p]).run Tryz.prog W = .ok (.enter 45 #[a, p]) W := by kernel_rfl
theorem enter47 (a p q : Value) (W : World) : (callFunc 47 #[a, p, q]).run Tryz.prog W = .ok (.enter 47 #[a, p, q]) W := by kernel_rfl

/-- A program's cells in a block. -/
structure PrB (w : World) (b : Nat) (g : PrG) : Prop where
  c0 : w.cell? ⟨b, 0, none⟩ = some g.av
  c1 : w.cell? ⟨b, 1, none⟩ = some g.fv
  c2 : w.cell? ⟨b, 2, none⟩ = some (.int .i64 g.p.main)
structure FnB (w : World) (b : Nat) (g : FnG) : Prop where
  c0 : w.cell? ⟨b, 0, none⟩ = some (.string ⟨g.fn.name.toArray⟩)
  c1 : w.cell? ⟨b, 1, none⟩ = some (.int .i64 g.fn.params)
  c2 : w.cell? ⟨b, 2, none⟩ = some (.int .i64 g.fn.vars)
  c3 : w.cell? ⟨b, 3, none⟩ = some g.cv
theorem PrB.below {w w' : World} {b : Nat} {g : PrG} (h : PrB w b g) (hb : Below w.heap.size w w') : PrB w' b g := ⟨get_b hb h.c0, get_b hb h.c1, get_b hb h.c2⟩
theorem FnB.below {w w' : World} {b : Nat} {g : FnG} (h : FnB w b g) (hb : Below w.heap.size w w') : FnB w' b g := ⟨get_b hb h.c0, get_b hb h.c1, get_b hb h.c2, get_b hb h.c3⟩

set_option maxRecDepth 100000 in
set_option maxHeartbeats 4000000 in
theorem bad_any (g : PrG) (f : FnG) (x : InV) (bp bf : Nat) (w : World) (hg : PrR w g) (hf : InsV w f.cv f.l) (hfe : f.l.map (·.1) = f.fn.code) (hx : IntsV w x.2 x.1.args) (ho : x.1.op < 256) (hal : x.1.args.length ≤ 1000000) (kp : PrB w bp g) (kf : FnB w bf f) :
    Calls Tryz.prog 47 #[insV x, .pointer (some ⟨bp, 0, none⟩), .pointer (some ⟨bf, 0, none⟩)] w fun e w' => e = .returned (.bool (!oneW g.p f.fn x.1)) ∧ Below w.heap.size w w' := by
  obtain ⟨D, cd, hxv, hcd, hxr⟩ := hx
  have hb0 : Below w.heap.size w (w.alloc (.cells #[.int .u8 x.1.op, .int .i64 x.1.v, .int .i64 x.1.a, .int .i64 x.1.b, .int .i64 x.1.n, .int .u8 x.1.bin, .slice D x.1.args.length cd, .int .i64 x.1.f, .int .i64 x.1.arr, .int .i64 x.1.to] 71)) := (Below.refl _ _).alloc (Nat.le_refl _) _
  have hone := one_any g f x _ (hg.below hb0) (hf.below hb0) hfe (IntsV.below ⟨D, cd, hxv, hcd, hxr⟩ hb0) ho hal
  have kp2 := kp.below hb0; have kf2 := kf.below hb0
  obtain ⟨p0, p1, p2⟩ := kp2
  obtain ⟨f0, f1, f2, f3⟩ := kf2
  unfold prV fnV insV at hone
  unfold insV
  rw [hxv] at hone ⊢
  have HO := Lib.hid hone; have HB0 := Lib.hid hb0
  have lp := cell_lt' kp.c0; have lf := cell_lt' kf.c0
  clear hone hb0 hg hf hfe kp kf hxr hxv hcd
  generalize oneW g.p f.fn x.1 = res at HO ⊢
  generalize g.av = av at *; generalize g.fv = fv at *; generalize f.cv = cv at *
  go_enter Tryz.func47, Tryz.ntmps47
  go_wp2_with fail
  refine HO.out.mono ?_
  rintro e w1 ⟨rfl, hb1⟩
  have HB1 := Lib.hid (HB0.out.trans (hb1.mono (by simp)))
  clear hb1 p0 p1 p2 f0 f1 f2 f3
  go_wp2_with fail
  go_ret
  exact ⟨rfl, HB1.out⟩
end Go.Proofs.YtgdibfnpkcdiiaaGreatDoor

/- Is a program right (three's Right). By an AI agent. -/
namespace Go.Proofs.YtgdibfnpkcdiiaaGreatDoor
open Go.RowKit

theorem last_get {α : Type} {l : List α} {n : Nat} (h : l.length = n + 1) : l.getLast? = l[n]? := by
  rw [List.getLast?_eq_getElem?, h]; rfl
set_option maxRecDepth 100000 in
set_option maxHeartbeats 8000000 in
theorem fn_any (g : PrG) (f : FnG) (bp : Nat) (w : World) (hg : PrR w g) (hf : InsV w f.cv f.l) (hfe : f.l.map (·.1) = f.fn.code) (ho : ∀ x ∈ f.fn.code, x.op < 256 ∧ x.args.length ≤ 1000000) (hcl : f.fn.code.length ≤ 1000000) (kp : PrB w bp g) :
    Calls Tryz.prog 45 #[fnV f, .pointer (some ⟨bp, 0, none⟩)] w fun e w' => e = .returned (.bool (!fnW g.p f.fn)) ∧ Below w.heap.size w w' := by
  obtain ⟨fn, cv, il⟩ := f
  dsimp only at hf hfe ho hcl
  have hff := hf
  obtain ⟨C, cc, hcv, hcc, hir⟩ := hf
  subst hcv
  obtain ⟨nc, hnc⟩ : ∃ n, n = il.length := ⟨_, rfl⟩
  have hcode : fn.code.length = nc := by rw [← hfe, List.length_map, hnc]
  have hb0 : Below w.heap.size w (w.alloc (.cells #[.string ⟨fn.name.toArray⟩, .int .i64 fn.params, .int .i64 fn.vars, .slice C il.length cc] 67)) := (Below.refl _ _).alloc (Nat.le_refl _) _
  have hcon : ∀ W, Below w.heap.size w W → FnB W w.heap.size ⟨fn, .slice C il.length cc, il⟩ → Calls Tryz.prog 46 #[.slice C il.length cc, .func (.func 47) #[] #[.pointer (some ⟨bp, 0, none⟩), .pointer (some ⟨w.heap.size, 0, none⟩)]] W fun e w' => e = .returned (.bool (il.any fun x => !oneW g.p fn x.1)) ∧ Below W.heap.size W w' := by
    intro W hW hB
    refine con_ins _ il 47 _ _ W (fun x => !oneW g.p fn x.1) (InsV.below hff hW) (by rw [← hnc, ← hcode]; exact hcl) (fun a U => enter47 a _ _ U) (fun x hx U hU => ?_)
    have hxc : x.1 ∈ fn.code := by rw [← hfe]; exact List.mem_map.2 ⟨x, hx, rfl⟩
    have hWU := hW.trans (hU.mono hW.size)
    refine bad_any g ⟨fn, .slice C il.length cc, il⟩ x bp w.heap.size U (hg.below hWU) (hff.below hWU) hfe ?_ (ho _ hxc).1 (ho _ hxc).2 (kp.below hWU) (hB.below hU)
    obtain ⟨j, hj⟩ := List.mem_iff_getElem?.1 hx
    rcases hir with e | ⟨b, o, e, k⟩
    · rw [e] at hj; simp at hj
    · exact ((k j x hj).below hWU).args
  have hany : (il.any fun x => !oneW g.p fn x.1) = !(fn.code.all (oneW g.p fn)) := by
    rw [← hfe, List.all_map, ← List.not_all_eq_any_not]; rfl
  have hlast : ∀ k, nc = k + 1 → ∃ x, il[k]? = some x ∧ endsW fn = decide (x.1.op = 12) := by
    intro k hk
    have hkl : k < il.length := by omega
    refine ⟨il[k], List.getElem?_eq_getElem hkl, ?_⟩
    unfold endsW
    rw [last_get (by rw [hcode, hk]), ← hfe, List.getElem?_map, List.getElem?_eq_getElem hkl]
    rfl
  have hnone : nc = 0 → endsW fn = false := by
    intro h
    have : fn.code = [] := List.length_eq_zero_iff.1 (by rw [hcode, h])
    unfold endsW
    rw [this]; rfl
  have hres : fnW g.p fn = (decide (0 ≤ fn.params ∧ fn.params ≤ 6 ∧ fn.params ≤ fn.vars ∧ fn.vars ≤ 200 ∧ nc ≤ 8000) && endsW fn && !(il.any fun x => !oneW g.p fn x.1)) := by
    rw [hany, fnW, hcode, Bool.not_not]
  have hir0 : il = [] ∨ ∃ b o, C = some ⟨b, o, none⟩ ∧ ∀ i x, il[i]? = some x → insAt (w.alloc (.cells #[.string ⟨fn.name.toArray⟩, .int .i64 fn.params, .int .i64 fn.vars, .slice C il.length cc] 67)) b (o + i * 10) x := hir.imp id fun ⟨b, o, e, k⟩ => ⟨b, o, e, fun i y hy => (k i y hy).below hb0⟩
  unfold fnV
  dsimp only
  rw [← hnc] at hcon hb0 hir0 ⊢
  have HCON := Lib.hid hcon; have HLAST := Lib.hid hlast; have HNONE := Lib.hid hnone; have HB0 := Lib.hid hb0; have HIR := Lib.hid hir0; have HNC := Lib.hid hnc
  generalize (il.any fun x => !oneW g.p fn x.1) = bad at HCON hres
  generalize fnW g.p fn = res at hres ⊢
  have HR := Lib.hid hres
  have hncb : nc ≤ 1000000 := by rw [← hcode]; exact hcl
  have HNCB := Lib.hid hncb
  clear hcon hlast hnone hb0 hff hg hfe ho hcl kp hcc hir hir0 hnc hcode hany hres hncb
  obtain ⟨W0, hW0⟩ : ∃ W0, W0 = w.alloc (.cells #[.string ⟨fn.name.toArray⟩, .int .i64 fn.params, .int .i64 fn.vars, .slice C nc cc] 67) := ⟨_, rfl⟩
  have bb := Blk.new w 67 #[.string ⟨fn.name.toArray⟩, .int .i64 fn.params, .int .i64 fn.vars, .slice C nc cc]
  rw [← hW0] at bb HB0 HIR
  have c0 := bb.cell 0; have c1 := bb.cell 1; have c2 := bb.cell 2; have c3 := bb.cell 3
  simp only [List.getElem?_toArray, List.getElem?_cons_zero, List.getElem?_cons_succ] at c0 c1 c2 c3
  have C0 := Lib.hid c0; have C1 := Lib.hid c1; have C2 := Lib.hid c2; have C3 := Lib.hid c3
  clear bb c0 c1 c2 c3
  go_enter Tryz.func45, Tryz.ntmps45
  go_upto_region 1 with fail
  rw [← hW0]
  clear hW0
  by_cases hil : il = []
  case pos =>
    have h0 : nc = 0 := by rw [HNC.out, hil]; rfl
    have HE := Lib.hid (show res = false by rw [HR.out, HNONE.out h0]; simp)
    subst h0
    clear HCON HLAST HNONE
    obtain ⟨bb0, hbb0⟩ : ∃ b : Bool, b = (decide (fn.params < 0)) := ⟨_, rfl⟩
    have Hbb0 := Lib.hid hbb0; clear hbb0
    obtain ⟨bb1, hbb1⟩ : ∃ b : Bool, b = (bb0 || (decide (6 < fn.params))) := ⟨_, rfl⟩
    have Hbb1 := Lib.hid hbb1; clear hbb1
    obtain ⟨bb2, hbb2⟩ : ∃ b : Bool, b = (bb1 || (decide (fn.vars < fn.params))) := ⟨_, rfl⟩
    have Hbb2 := Lib.hid hbb2; clear hbb2
    obtain ⟨bb3, hbb3⟩ : ∃ b : Bool, b = (bb2 || (decide (200 < fn.vars))) := ⟨_, rfl⟩
    have Hbb3 := Lib.hid hbb3; clear hbb3
    obtain ⟨bb4, hbb4⟩ : ∃ b : Bool, b = (bb3 || (decide (8000 < (0 : Int)))) := ⟨_, rfl⟩
    have Hbb4 := Lib.hid hbb4; clear hbb4
    refine wp_region_vals [(none, .pointer (some ⟨w.heap.size, 1, none⟩)), (none, .int .i64 fn.params), (none, .bool (decide (fn.params < 0))), (none, .bool bb0), (some (7, false), gd bb0 false (.pointer (some ⟨w.heap.size, 1, none⟩))), (some (7, false), gd bb0 false (.int .i64 fn.params)), (some (7, false), gd bb0 false (.bool (decide (6 < fn.params)))), (none, .bool bb1), (none, .bool bb1), (some (12, false), gd bb1 false (.pointer (some ⟨w.heap.size, 2, none⟩))), (some (12, false), gd bb1 false (.int .i64 fn.vars)), (some (12, false), gd bb1 false (.pointer (some ⟨w.heap.size, 1, none⟩))), (some (12, false), gd bb1 false (.int .i64 fn.params)), (some (12, false), gd bb1 false (.bool (decide (fn.vars < fn.params)))), (none, .bool bb2), (none, .bool bb2), (some (19, false), gd bb2 false (.pointer (some ⟨w.heap.size, 2, none⟩))), (some (19, false), gd bb2 false (.int .i64 fn.vars)), (some (19, false), gd bb2 false (.bool (decide (200 < fn.vars)))), (none, .bool bb3), (none, .bool bb3), (some (24, false), gd bb3 false (.pointer (some ⟨w.heap.size, 3, none⟩))), (some (24, false), gd bb3 false (.slice C 0 cc)), (some (24, false), gd bb3 false (.int .i64 (0 : Int))), (some (24, false), gd bb3 false (.bool (decide (8000 < (0 : Int))))), (none, .bool bb4), (none, .bool bb4), (some (30, false), gd bb4 false (.pointer (some ⟨w.heap.size, 3, none⟩))), (some (30, false), gd bb4 false (.slice C 0 cc)), (some (30, false), gd bb4 false (.int .i64 (0 : Int))), (some (30, false), gd bb4 false (.bool ((0 : Int) == 0))), (none, .bool true), (none, .bool true), (some (36, false), undef), (some (36, false), undef), (some (36, false), undef), (some (36, false), undef), (some (36, false), undef), (some (36, false), undef), (some (36, false), undef), (some (36, false), undef), (some (36, false), undef), (some (36, false), undef), (none, .bool true)] mixed (by kernel_rfl) ?_
    intro FF hF
    have hL : HasL FF [(2, .pointer (some ⟨w.heap.size, 0, none⟩)), (4, .pointer (some ⟨w.heap.size, 1, none⟩)), (5, .int .i64 fn.params), (6, .bool (decide (fn.params < 0))), (7, .bool bb0), (8, gd bb0 false (.pointer (some ⟨w.heap.size, 1, none⟩))), (9, gd bb0 false (.int .i64 fn.params)), (10, gd bb0 false (.bool (decide (6 < fn.params)))), (11, .bool bb1), (12, .bool bb1), (13, gd bb1 false (.pointer (some ⟨w.heap.size, 2, none⟩))), (14, gd bb1 false (.int .i64 fn.vars)), (15, gd bb1 false (.pointer (some ⟨w.heap.size, 1, none⟩))), (16, gd bb1 false (.int .i64 fn.params)), (17, gd bb1 false (.bool (decide (fn.vars < fn.params)))), (18, .bool bb2), (19, .bool bb2), (20, gd bb2 false (.pointer (some ⟨w.heap.size, 2, none⟩))), (21, gd bb2 false (.int .i64 fn.vars)), (22, gd bb2 false (.bool (decide (200 < fn.vars)))), (23, .bool bb3), (24, .bool bb3), (25, gd bb3 false (.pointer (some ⟨w.heap.size, 3, none⟩))), (26, gd bb3 false (.slice C 0 cc)), (27, gd bb3 false (.int .i64 (0 : Int))), (28, gd bb3 false (.bool (decide (8000 < (0 : Int))))), (29, .bool bb4), (30, .bool bb4), (31, gd bb4 false (.pointer (some ⟨w.heap.size, 3, none⟩))), (32, gd bb4 false (.slice C 0 cc)), (33, gd bb4 false (.int .i64 (0 : Int))), (34, gd bb4 false (.bool ((0 : Int) == 0))), (35, .bool true), (36, .bool true), (37, undef), (38, undef), (39, undef), (40, undef), (41, undef), (42, undef), (43, undef), (44, undef), (45, undef), (46, undef), (47, .bool true)] := by unfold HasL; rw [hF]; kernel_rfl
    have HF := Lib.hid hF; clear hF
    refine ⟨?_, ?_⟩
    · intro W hW
      repeat clear ‹∀ (a : Act) (w : World), Code.wp Tryz.prog _ _ a w → _›
      have gff := gd_ff
      have gtt := gd_tt
      exact
      ResL.cons (OpRes.val (by have a2 := hL.at 0 rfl; go_simp)) (
      ResL.cons (OpRes.val (by have a4 := hL.at 1 rfl; have kk := get_b hW C1.out; go_simp)) (
      ResL.cons (OpRes.val (by have a5 := hL.at 2 rfl; go_simp)) (
      ResL.cons (OpRes.val (by rw [Hbb0.out]; have a6 := hL.at 3 rfl; go_simp)) (
      ResL.cons (OpRes.gval (hL.at 4 rfl) (fun e0 => by have a2 := hL.at 0 rfl; subst e0; go_simp)) (
      ResL.cons (OpRes.gval (hL.at 4 rfl) (fun e0 => by have a8 := hL.at 5 rfl; have kk := get_b hW C1.out; subst e0; go_simp)) (
      ResL.cons (OpRes.gval (hL.at 4 rfl) (fun e0 => by have a9 := hL.at 6 rfl; subst e0; go_simp)) (
      ResL.cons (OpRes.val (by rw [Hbb1.out]; have a7 := hL.at 4 rfl; have a10 := hL.at 7 rfl; cases bb0 <;> go_simp)) (
      ResL.cons (OpRes.val (by have a11 := hL.at 8 rfl; go_simp)) (
      ResL.cons (OpRes.gval (hL.at 9 rfl) (fun e0 => by have a2 := hL.at 0 rfl; subst e0; go_simp)) (
      ResL.cons (OpRes.gval (hL.at 9 rfl) (fun e0 => by have a13 := hL.at 10 rfl; have kk := get_b hW C2.out; subst e0; go_simp)) (
      ResL.cons (OpRes.gval (hL.at 9 rfl) (fun e0 => by have a2 := hL.at 0 rfl; subst e0; go_simp)) (
      ResL.cons (OpRes.gval (hL.at 9 rfl) (fun e0 => by have a15 := hL.at 12 rfl; have kk := get_b hW C1.out; subst e0; go_simp)) (
      ResL.cons (OpRes.gval (hL.at 9 rfl) (fun e0 => by have a14 := hL.at 11 rfl; have a16 := hL.at 13 rfl; subst e0; go_simp)) (
      ResL.cons (OpRes.val (by rw [Hbb2.out]; have a12 := hL.at 9 rfl; have a17 := hL.at 14 rfl; cases bb1 <;> go_simp)) (
      ResL.cons (OpRes.val (by have a18 := hL.at 15 rfl; go_simp)) (
      ResL.cons (OpRes.gval (hL.at 16 rfl) (fun e0 => by have a2 := hL.at 0 rfl; subst e0; go_simp)) (
      ResL.cons (OpRes.gval (hL.at 16 rfl) (fun e0 => by have a20 := hL.at 17 rfl; have kk := get_b hW C2.out; subst e0; go_simp)) (
      ResL.cons (OpRes.gval (hL.at 16 rfl) (fun e0 => by have a21 := hL.at 18 rfl; subst e0; go_simp)) (
      ResL.cons (OpRes.val (by rw [Hbb3.out]; have a19 := hL.at 16 rfl; have a22 := hL.at 19 rfl; cases bb2 <;> go_simp)) (
      ResL.cons (OpRes.val (by have a23 := hL.at 20 rfl; go_simp)) (
      ResL.cons (OpRes.gval (hL.at 21 rfl) (fun e0 => by have a2 := hL.at 0 rfl; subst e0; go_simp)) (
      ResL.cons (OpRes.gval (hL.at 21 rfl) (fun e0 => by have a25 := hL.at 22 rfl; have kk := get_b hW C3.out; subst e0; go_simp)) (
      ResL.cons (OpRes.gval (hL.at 21 rfl) (fun e0 => by have a26 := hL.at 23 rfl; subst e0; go_simp)) (
      ResL.cons (OpRes.gval (hL.at 21 rfl) (fun e0 => by have a27 := hL.at 24 rfl; subst e0; go_simp)) (
      ResL.cons (OpRes.val (by rw [Hbb4.out]; have a24 := hL.at 21 rfl; have a28 := hL.at 25 rfl; cases bb3 <;> go_simp)) (
      ResL.cons (OpRes.val (by have a29 := hL.at 26 rfl; go_simp)) (
      ResL.cons (OpRes.gval (hL.at 27 rfl) (fun e0 => by have a2 := hL.at 0 rfl; subst e0; go_simp)) (
      ResL.cons (OpRes.gval (hL.at 27 rfl) (fun e0 => by have a31 := hL.at 28 rfl; have kk := get_b hW C3.out; subst e0; go_simp)) (
      ResL.cons (OpRes.gval (hL.at 27 rfl) (fun e0 => by have a32 := hL.at 29 rfl; subst e0; go_simp)) (
      ResL.cons (OpRes.gval (hL.at 27 rfl) (fun e0 => by have a33 := hL.at 30 rfl; subst e0; go_simp)) (
      ResL.cons (OpRes.to (v := .bool (bb4 || ((0 : Int) == 0))) (by rw [(show (bb4 || ((0 : Int) == 0)) = true by simp)]) (OpRes.val (by have a30 := hL.at 27 rfl; have a34 := hL.at 31 rfl; cases bb4 <;> go_simp))) (
      ResL.cons (OpRes.val (by have a35 := hL.at 32 rfl; go_simp)) (
      ResL.cons (OpRes.skip (hL.at 33 rfl) (rfl)) (
      ResL.cons (OpRes.skip (hL.at 33 rfl) (rfl)) (
      ResL.cons (OpRes.skip (hL.at 33 rfl) (rfl)) (
      ResL.cons (OpRes.skip (hL.at 33 rfl) (rfl)) (
      ResL.cons (OpRes.skip (hL.at 33 rfl) (rfl)) (
      ResL.cons (OpRes.skip (hL.at 33 rfl) (rfl)) (
      ResL.cons (OpRes.skip (hL.at 33 rfl) (rfl)) (
      ResL.cons (OpRes.skip (hL.at 33 rfl) (rfl)) (
      ResL.cons (OpRes.skip (hL.at 33 rfl) (rfl)) (
      ResL.cons (OpRes.skip (hL.at 33 rfl) (rfl)) (
      ResL.cons (OpRes.val (by have a36 := hL.at 33 rfl; have a46 := hL.at 43 rfl; go_simp)) (
      ResL.nil))))))))))))))))))))))))))))))))))))))))))))
    intro W hW
    clear hL
    obtain ⟨gg, hFF⟩ : ∃ gg : Nat → Value, FF = ⟨List.toArray (gg 0 :: .pointer (some ⟨bp, 0, none⟩) :: .pointer (some ⟨w.heap.size, 0, none⟩) :: .bool false :: gg 4 :: gg 5 :: gg 6 :: gg 7 :: gg 8 :: gg 9 :: gg 10 :: gg 11 :: gg 12 :: gg 13 :: gg 14 :: gg 15 :: gg 16 :: gg 17 :: gg 18 :: gg 19 :: gg 20 :: gg 21 :: gg 22 :: gg 23 :: gg 24 :: gg 25 :: gg 26 :: gg 27 :: gg 28 :: gg 29 :: gg 30 :: gg 31 :: gg 32 :: gg 33 :: gg 34 :: gg 35 :: gg 36 :: gg 37 :: gg 38 :: gg 39 :: gg 40 :: gg 41 :: gg 42 :: gg 43 :: gg 44 :: gg 45 :: gg 46 :: .bool true :: gg 48 :: gg 49 :: gg 50 :: gg 51 :: []), []⟩ := ⟨fun k => FF.tmps.getD k undef, by rw [HF.out]; kernel_rfl⟩
    clear HF
    subst hFF
    refine wpList_nil ?_
    have HV := Lib.hid (HB0.out.trans (hW.mono HB0.out.size))
    clear hW
    go_wp2_with fail
    go_ret
    exact ⟨ret_b (by rw [HE.out]; rfl), HV.out⟩
  case neg =>
    obtain ⟨k, hk⟩ : ∃ k, nc = k + 1 := ⟨nc - 1, by have := List.length_pos_iff.2 hil; rw [HNC.out]; omega⟩
    obtain ⟨y, hy, hend⟩ := HLAST.out k hk
    obtain ⟨cb, co, rfl, hat⟩ : ∃ b o, C = some ⟨b, o, none⟩ ∧ ∀ i x, il[i]? = some x → insAt W0 b (o + i * 10) x := by
      rcases HIR.out with e | ⟨b, o, e, k⟩
      · exact absurd e hil
      · exact ⟨b, o, e, k⟩
    have HY0 := Lib.hid (hat k y hy).c0
    have HK := Lib.hid (show (nc : Int) = (k : Int) + 1 by omega); have HEND := Lib.hid hend
    clear hil hk hy hend hat HLAST HNONE HIR
    obtain ⟨bb0, hbb0⟩ : ∃ b : Bool, b = (decide (fn.params < 0)) := ⟨_, rfl⟩
    have Hbb0 := Lib.hid hbb0; clear hbb0
    obtain ⟨bb1, hbb1⟩ : ∃ b : Bool, b = (bb0 || (decide (6 < fn.params))) := ⟨_, rfl⟩
    have Hbb1 := Lib.hid hbb1; clear hbb1
    obtain ⟨bb2, hbb2⟩ : ∃ b : Bool, b = (bb1 || (decide (fn.vars < fn.params))) := ⟨_, rfl⟩
    have Hbb2 := Lib.hid hbb2; clear hbb2
    obtain ⟨bb3, hbb3⟩ : ∃ b : Bool, b = (bb2 || (decide (200 < fn.vars))) := ⟨_, rfl⟩
    have Hbb3 := Lib.hid hbb3; clear hbb3
    obtain ⟨bb4, hbb4⟩ : ∃ b : Bool, b = (bb3 || (decide (8000 < (nc : Int)))) := ⟨_, rfl⟩
    have Hbb4 := Lib.hid hbb4; clear hbb4
    obtain ⟨bb5, hbb5⟩ : ∃ b : Bool, b = (bb4 || ((nc : Int) == 0)) := ⟨_, rfl⟩
    have Hbb5 := Lib.hid hbb5; clear hbb5
    obtain ⟨bb6, hbb6⟩ : ∃ b : Bool, b = (bb5 || ((y.1.op : Int) != 12)) := ⟨_, rfl⟩
    have Hbb6 := Lib.hid hbb6; clear hbb6
    refine wp_region_vals [(none, .pointer (some ⟨w.heap.size, 1, none⟩)), (none, .int .i64 fn.params), (none, .bool (decide (fn.params < 0))), (none, .bool bb0), (some (7, false), gd bb0 false (.pointer (some ⟨w.heap.size, 1, none⟩))), (some (7, false), gd bb0 false (.int .i64 fn.params)), (some (7, false), gd bb0 false (.bool (decide (6 < fn.params)))), (none, .bool bb1), (none, .bool bb1), (some (12, false), gd bb1 false (.pointer (some ⟨w.heap.size, 2, none⟩))), (some (12, false), gd bb1 false (.int .i64 fn.vars)), (some (12, false), gd bb1 false (.pointer (some ⟨w.heap.size, 1, none⟩))), (some (12, false), gd bb1 false (.int .i64 fn.params)), (some (12, false), gd bb1 false (.bool (decide (fn.vars < fn.params)))), (none, .bool bb2), (none, .bool bb2), (some (19, false), gd bb2 false (.pointer (some ⟨w.heap.size, 2, none⟩))), (some (19, false), gd bb2 false (.int .i64 fn.vars)), (some (19, false), gd bb2 false (.bool (decide (200 < fn.vars)))), (none, .bool bb3), (none, .bool bb3), (some (24, false), gd bb3 false (.pointer (some ⟨w.heap.size, 3, none⟩))), (some (24, false), gd bb3 false (.slice (some ⟨cb, co, none⟩) nc cc)), (some (24, false), gd bb3 false (.int .i64 (nc : Int))), (some (24, false), gd bb3 false (.bool (decide (8000 < (nc : Int))))), (none, .bool bb4), (none, .bool bb4), (some (30, false), gd bb4 false (.pointer (some ⟨w.heap.size, 3, none⟩))), (some (30, false), gd bb4 false (.slice (some ⟨cb, co, none⟩) nc cc)), (some (30, false), gd bb4 false (.int .i64 (nc : Int))), (some (30, false), gd bb4 false (.bool ((nc : Int) == 0))), (none, .bool bb5), (none, .bool bb5), (some (36, false), gd bb5 false (.pointer (some ⟨w.heap.size, 3, none⟩))), (some (36, false), gd bb5 false (.slice (some ⟨cb, co, none⟩) nc cc)), (some (36, false), gd bb5 false (.pointer (some ⟨w.heap.size, 3, none⟩))), (some (36, false), gd bb5 false (.slice (some ⟨cb, co, none⟩) nc cc)), (some (36, false), gd bb5 false (.int .i64 (nc : Int))), (some (36, false), gd bb5 false (.int .i64 (k : Int))), (some (36, false), gd bb5 false (.pointer (some ⟨cb, co + k * 10, none⟩))), (some (36, false), gd bb5 false (.pointer (some ⟨cb, co + k * 10, none⟩))), (some (36, false), gd bb5 false (.int .u8 (y.1.op : Int))), (some (36, false), gd bb5 false (.bool ((y.1.op : Int) != 12))), (none, .bool bb6)] mixed (by kernel_rfl) ?_
    intro FF hF
    have hL : HasL FF [(2, .pointer (some ⟨w.heap.size, 0, none⟩)), (4, .pointer (some ⟨w.heap.size, 1, none⟩)), (5, .int .i64 fn.params), (6, .bool (decide (fn.params < 0))), (7, .bool bb0), (8, gd bb0 false (.pointer (some ⟨w.heap.size, 1, none⟩))), (9, gd bb0 false (.int .i64 fn.params)), (10, gd bb0 false (.bool (decide (6 < fn.params)))), (11, .bool bb1), (12, .bool bb1), (13, gd bb1 false (.pointer (some ⟨w.heap.size, 2, none⟩))), (14, gd bb1 false (.int .i64 fn.vars)), (15, gd bb1 false (.pointer (some ⟨w.heap.size, 1, none⟩))), (16, gd bb1 false (.int .i64 fn.params)), (17, gd bb1 false (.bool (decide (fn.vars < fn.params)))), (18, .bool bb2), (19, .bool bb2), (20, gd bb2 false (.pointer (some ⟨w.heap.size, 2, none⟩))), (21, gd bb2 false (.int .i64 fn.vars)), (22, gd bb2 false (.bool (decide (200 < fn.vars)))), (23, .bool bb3), (24, .bool bb3), (25, gd bb3 false (.pointer (some ⟨w.heap.size, 3, none⟩))), (26, gd bb3 false (.slice (some ⟨cb, co, none⟩) nc cc)), (27, gd bb3 false (.int .i64 (nc : Int))), (28, gd bb3 false (.bool (decide (8000 < (nc : Int))))), (29, .bool bb4), (30, .bool bb4), (31, gd bb4 false (.pointer (some ⟨w.heap.size, 3, none⟩))), (32, gd bb4 false (.slice (some ⟨cb, co, none⟩) nc cc)), (33, gd bb4 false (.int .i64 (nc : Int))), (34, gd bb4 false (.bool ((nc : Int) == 0))), (35, .bool bb5), (36, .bool bb5), (37, gd bb5 false (.pointer (some ⟨w.heap.size, 3, none⟩))), (38, gd bb5 false (.slice (some ⟨cb, co, none⟩) nc cc)), (39, gd bb5 false (.pointer (some ⟨w.heap.size, 3, none⟩))), (40, gd bb5 false (.slice (some ⟨cb, co, none⟩) nc cc)), (41, gd bb5 false (.int .i64 (nc : Int))), (42, gd bb5 false (.int .i64 (k : Int))), (43, gd bb5 false (.pointer (some ⟨cb, co + k * 10, none⟩))), (44, gd bb5 false (.pointer (some ⟨cb, co + k * 10, none⟩))), (45, gd bb5 false (.int .u8 (y.1.op : Int))), (46, gd bb5 false (.bool ((y.1.op : Int) != 12))), (47, .bool bb6)] := by unfold HasL; rw [hF]; kernel_rfl
    have HF := Lib.hid hF; clear hF
    refine ⟨?_, ?_⟩
    · intro W hW
      repeat clear ‹∀ (a : Act) (w : World), Code.wp Tryz.prog _ _ a w → _›
      have gff := gd_ff
      have gtt := gd_tt
      have hncb := HNCB.out
      have hnk := HK.out
      have hkw : IntKind.i64.wrap (k : Int) = k := IntWalk.i64_in _ (by omega)
      have hkl : ¬ ((k : Int) + 1 ≤ k) := by omega
      exact
      ResL.cons (OpRes.val (by have a2 := hL.at 0 rfl; go_simp)) (
      ResL.cons (OpRes.val (by have a4 := hL.at 1 rfl; have kk := get_b hW C1.out; go_simp)) (
      ResL.cons (OpRes.val (by have a5 := hL.at 2 rfl; go_simp)) (
      ResL.cons (OpRes.val (by rw [Hbb0.out]; have a6 := hL.at 3 rfl; go_simp)) (
      ResL.cons (OpRes.gval (hL.at 4 rfl) (fun e0 => by have a2 := hL.at 0 rfl; subst e0; go_simp)) (
      ResL.cons (OpRes.gval (hL.at 4 rfl) (fun e0 => by have a8 := hL.at 5 rfl; have kk := get_b hW C1.out; subst e0; go_simp)) (
      ResL.cons (OpRes.gval (hL.at 4 rfl) (fun e0 => by have a9 := hL.at 6 rfl; subst e0; go_simp)) (
      ResL.cons (OpRes.val (by rw [Hbb1.out]; have a7 := hL.at 4 rfl; have a10 := hL.at 7 rfl; cases bb0 <;> go_simp)) (
      ResL.cons (OpRes.val (by have a11 := hL.at 8 rfl; go_simp)) (
      ResL.cons (OpRes.gval (hL.at 9 rfl) (fun e0 => by have a2 := hL.at 0 rfl; subst e0; go_simp)) (
      ResL.cons (OpRes.gval (hL.at 9 rfl) (fun e0 => by have a13 := hL.at 10 rfl; have kk := get_b hW C2.out; subst e0; go_simp)) (
      ResL.cons (OpRes.gval (hL.at 9 rfl) (fun e0 => by have a2 := hL.at 0 rfl; subst e0; go_simp)) (
      ResL.cons (OpRes.gval (hL.at 9 rfl) (fun e0 => by have a15 := hL.at 12 rfl; have kk := get_b hW C1.out; subst e0; go_simp)) (
      ResL.cons (OpRes.gval (hL.at 9 rfl) (fun e0 => by have a14 := hL.at 11 rfl; have a16 := hL.at 13 rfl; subst e0; go_simp)) (
      ResL.cons (OpRes.val (by rw [Hbb2.out]; have a12 := hL.at 9 rfl; have a17 := hL.at 14 rfl; cases bb1 <;> go_simp)) (
      ResL.cons (OpRes.val (by have a18 := hL.at 15 rfl; go_simp)) (
      ResL.cons (OpRes.gval (hL.at 16 rfl) (fun e0 => by have a2 := hL.at 0 rfl; subst e0; go_simp)) (
      ResL.cons (OpRes.gval (hL.at 16 rfl) (fun e0 => by have a20 := hL.at 17 rfl; have kk := get_b hW C2.out; subst e0; go_simp)) (
      ResL.cons (OpRes.gval (hL.at 16 rfl) (fun e0 => by have a21 := hL.at 18 rfl; subst e0; go_simp)) (
      ResL.cons (OpRes.val (by rw [Hbb3.out]; have a19 := hL.at 16 rfl; have a22 := hL.at 19 rfl; cases bb2 <;> go_simp)) (
      ResL.cons (OpRes.val (by have a23 := hL.at 20 rfl; go_simp)) (
      ResL.cons (OpRes.gval (hL.at 21 rfl) (fun e0 => by have a2 := hL.at 0 rfl; subst e0; go_simp)) (
      ResL.cons (OpRes.gval (hL.at 21 rfl) (fun e0 => by have a25 := hL.at 22 rfl; have kk := get_b hW C3.out; subst e0; go_simp)) (
      ResL.cons (OpRes.gval (hL.at 21 rfl) (fun e0 => by have a26 := hL.at 23 rfl; subst e0; go_simp)) (
      ResL.cons (OpRes.gval (hL.at 21 rfl) (fun e0 => by have a27 := hL.at 24 rfl; subst e0; go_simp)) (
      ResL.cons (OpRes.val (by rw [Hbb4.out]; have a24 := hL.at 21 rfl; have a28 := hL.at 25 rfl; cases bb3 <;> go_simp)) (
      ResL.cons (OpRes.val (by have a29 := hL.at 26 rfl; go_simp)) (
      ResL.cons (OpRes.gval (hL.at 27 rfl) (fun e0 => by have a2 := hL.at 0 rfl; subst e0; go_simp)) (
      ResL.cons (OpRes.gval (hL.at 27 rfl) (fun e0 => by have a31 := hL.at 28 rfl; have kk := get_b hW C3.out; subst e0; go_simp)) (
      ResL.cons (OpRes.gval (hL.at 27 rfl) (fun e0 => by have a32 := hL.at 29 rfl; subst e0; go_simp)) (
      ResL.cons (OpRes.gval (hL.at 27 rfl) (fun e0 => by have a33 := hL.at 30 rfl; subst e0; go_simp)) (
      ResL.cons (OpRes.val (by rw [Hbb5.out]; have a30 := hL.at 27 rfl; have a34 := hL.at 31 rfl; cases bb4 <;> go_simp)) (
      ResL.cons (OpRes.val (by have a35 := hL.at 32 rfl; go_simp)) (
      ResL.cons (OpRes.gval (hL.at 33 rfl) (fun e0 => by have a2 := hL.at 0 rfl; subst e0; go_simp)) (
      ResL.cons (OpRes.gval (hL.at 33 rfl) (fun e0 => by have a37 := hL.at 34 rfl; have kk := get_b hW C3.out; subst e0; go_simp)) (
      ResL.cons (OpRes.gval (hL.at 33 rfl) (fun e0 => by have a2 := hL.at 0 rfl; subst e0; go_simp)) (
      ResL.cons (OpRes.gval (hL.at 33 rfl) (fun e0 => by have a39 := hL.at 36 rfl; have kk := get_b hW C3.out; subst e0; go_simp)) (
      ResL.cons (OpRes.gval (hL.at 33 rfl) (fun e0 => by have a40 := hL.at 37 rfl; subst e0; go_simp)) (
      ResL.cons (OpRes.gval (hL.at 33 rfl) (fun e0 => by have a41 := hL.at 38 rfl; subst e0; go_simp)) (
      ResL.cons (OpRes.gval (hL.at 33 rfl) (fun e0 => by have a38 := hL.at 35 rfl; have a42 := hL.at 39 rfl; subst e0; go_simp)) (
      ResL.cons (OpRes.gval (hL.at 33 rfl) (fun e0 => by have a43 := hL.at 40 rfl; subst e0; go_simp)) (
      ResL.cons (OpRes.gval (hL.at 33 rfl) (fun e0 => by have a44 := hL.at 41 rfl; have kk := get_b hW HY0.out; subst e0; go_simp)) (
      ResL.cons (OpRes.gval (hL.at 33 rfl) (fun e0 => by have a45 := hL.at 42 rfl; subst e0; go_simp)) (
      ResL.cons (OpRes.val (by rw [Hbb6.out]; have a36 := hL.at 33 rfl; have a46 := hL.at 43 rfl; cases bb5 <;> go_simp)) (
      ResL.nil))))))))))))))))))))))))))))))))))))))))))))
    intro W hW
    clear hL
    obtain ⟨gg, hFF⟩ : ∃ gg : Nat → Value, FF = ⟨List.toArray (gg 0 :: .pointer (some ⟨bp, 0, none⟩) :: .pointer (some ⟨w.heap.size, 0, none⟩) :: .bool false :: gg 4 :: gg 5 :: gg 6 :: gg 7 :: gg 8 :: gg 9 :: gg 10 :: gg 11 :: gg 12 :: gg 13 :: gg 14 :: gg 15 :: gg 16 :: gg 17 :: gg 18 :: gg 19 :: gg 20 :: gg 21 :: gg 22 :: gg 23 :: gg 24 :: gg 25 :: gg 26 :: gg 27 :: gg 28 :: gg 29 :: gg 30 :: gg 31 :: gg 32 :: gg 33 :: gg 34 :: gg 35 :: gg 36 :: gg 37 :: gg 38 :: gg 39 :: gg 40 :: gg 41 :: gg 42 :: gg 43 :: gg 44 :: gg 45 :: gg 46 :: .bool bb6 :: gg 48 :: gg 49 :: gg 50 :: gg 51 :: []), []⟩ := ⟨fun k => FF.tmps.getD k undef, by rw [HF.out]; kernel_rfl⟩
    clear HF
    subst hFF
    refine wpList_nil ?_
    have HV := Lib.hid (HB0.out.trans (hW.mono HB0.out.size))
    have hcell : FnB W w.heap.size ⟨fn, .slice (some ⟨cb, co, none⟩) nc cc, il⟩ := ⟨get_b hW C0.out, get_b hW C1.out, get_b hW C2.out, get_b hW C3.out⟩
    have hcond : bb6 = !(decide (0 ≤ fn.params ∧ fn.params ≤ 6 ∧ fn.params ≤ fn.vars ∧ fn.vars ≤ 200 ∧ nc ≤ 8000) && endsW fn) := by
      have qbb0 := Hbb0.out; have qbb1 := Hbb1.out; have qbb2 := Hbb2.out; have qbb3 := Hbb3.out; have qbb4 := Hbb4.out; have qbb5 := Hbb5.out; have qbb6 := Hbb6.out
      subst qbb6 qbb5 qbb4 qbb3 qbb2 qbb1 qbb0
      rw [HEND.out]
      have hk := HK.out
      by_cases g1 : fn.params < 0
      · have : ¬ (0 ≤ fn.params ∧ fn.params ≤ 6 ∧ fn.params ≤ fn.vars ∧ fn.vars ≤ 200 ∧ nc ≤ 8000) := by omega
        simp [g1, this]
      · by_cases g2 : 6 < fn.params
        · have : ¬ (0 ≤ fn.params ∧ fn.params ≤ 6 ∧ fn.params ≤ fn.vars ∧ fn.vars ≤ 200 ∧ nc ≤ 8000) := by omega
          simp [g2, this]
        · by_cases g3 : fn.vars < fn.params
          · have : ¬ (0 ≤ fn.params ∧ fn.params ≤ 6 ∧ fn.params ≤ fn.vars ∧ fn.vars ≤ 200 ∧ nc ≤ 8000) := by omega
            simp [g3, this]
          · by_cases g4 : 200 < fn.vars
            · have : ¬ (0 ≤ fn.params ∧ fn.params ≤ 6 ∧ fn.params ≤ fn.vars ∧ fn.vars ≤ 200 ∧ nc ≤ 8000) := by omega
              simp [g4, this]
            · by_cases g5 : 8000 < (nc : Int)
              · have : ¬ (0 ≤ fn.params ∧ fn.params ≤ 6 ∧ fn.params ≤ fn.vars ∧ fn.vars ≤ 200 ∧ nc ≤ 8000) := by omega
                simp [g5, this]
              · have h5 : (0 ≤ fn.params ∧ fn.params ≤ 6 ∧ fn.params ≤ fn.vars ∧ fn.vars ≤ 200 ∧ nc ≤ 8000) := by omega
                have g6 : ((nc : Int) == 0) = false := by simp; omega
                have g7 : ((y.1.op : Int) != 12) = !decide (y.1.op = 12) := by
                  rw [bne, Bool.beq_eq_decide_eq]; congr 1; exact decide_eq_decide.2 (by omega)
                rw [decide_eq_false g1, decide_eq_false g2, decide_eq_false g3, decide_eq_false g4, decide_eq_false g5, decide_eq_true h5, g6, g7]
                simp
    cases hbb : bb6 with
    | true =>
      have HE := Lib.hid (show res = false by
        rw [hbb] at hcond
        rw [HR.out]
        revert hcond
        cases (decide (0 ≤ fn.params ∧ fn.params ≤ 6 ∧ fn.params ≤ fn.vars ∧ fn.vars ≤ 200 ∧ nc ≤ 8000) && endsW fn) <;> simp)
      clear hcond hbb hcell hW
      go_wp2_with fail
      go_ret
      exact ⟨ret_b (by rw [HE.out]; rfl), HV.out⟩
    | false =>
      have HE := Lib.hid (show res = !bad by
        rw [hbb] at hcond
        rw [HR.out]
        revert hcond
        cases (decide (0 ≤ fn.params ∧ fn.params ≤ 6 ∧ fn.params ≤ fn.vars ∧ fn.vars ≤ 200 ∧ nc ≤ 8000) && endsW fn) <;> simp)
      have k3 := hcell.c3
      have HC := Lib.hid (HCON.out W HV.out hcell)
      have lf := cell_lt' hcell.c0
      clear hcond hbb hcell hW HCON
      dsimp only at k3
      go_wp2_with fail
      refine HC.out.mono ?_
      rintro e w1 ⟨rfl, hb1⟩
      have HVV := Lib.hid (HV.out.trans (hb1.mono HV.out.size))
      clear hb1 k3
      go_wp2_with fail
      go_ret
      exact ⟨ret_b (by rw [HE.out]; simp), HVV.out⟩
end Go.Proofs.YtgdibfnpkcdiiaaGreatDoor

/- Is a program right (three's Right): the whole. By an AI agent. -/
namespace Go.Proofs.YtgdibfnpkcdiiaaGreatDoor
open Go.RowKit

set_option maxRecDepth 100000 in
set_option maxHeartbeats 8000000 in
theorem right_any (g : PrG) (w : World) (hg : PrR w g) (hs : PrS g.p) : Calls Tryz.prog 14 #[prV g] w fun e w' => e = .returned (.bool (rightW g.p)) ∧ Below w.heap.size w w' := by
  obtain ⟨p, av, fv, l⟩ := g
  have hgg := hg
  obtain ⟨ha, hfs, he⟩ := hg
  obtain ⟨A, ca, hav, hca, har⟩ := ha
  obtain ⟨F, cf, hfv, hcf, hfr⟩ := hfs
  dsimp only at hav hfv he hfr hca hcf har hs
  subst hav; subst hfv
  obtain ⟨na, hna⟩ : ∃ n, n = p.arrays.length := ⟨_, rfl⟩
  obtain ⟨nl, hnl⟩ : ∃ n, n = l.length := ⟨_, rfl⟩
  have hfl : p.fns.length = nl := by rw [← he, List.length_map, hnl]
  unfold prV
  dsimp only
  have hb0 : Below w.heap.size w (w.alloc (.cells #[.slice A p.arrays.length ca, .slice F l.length cf, .int .i64 p.main] 25)) := (Below.refl _ _).alloc (Nat.le_refl _) _
  have hcA : ∀ W, Below w.heap.size w W → Calls Tryz.prog 42 #[.slice A p.arrays.length ca, .func (.func 43) #[] #[]] W fun e w' => e = .returned (.bool (p.arrays.any fun n => !decide (1 ≤ n ∧ n ≤ 4096))) ∧ Below W.heap.size W w' := fun W hW =>
    con_ints _ p.arrays 43 W _ (IntsV.below hgg.arrays hW) hs.arrays (fun a U => enter43 a U) (fun x _ U _ => far_any x U)
  have hcF : ∀ W, Below w.heap.size w W → PrB W w.heap.size ⟨p, .slice A p.arrays.length ca, .slice F l.length cf, l⟩ → Calls Tryz.prog 44 #[.slice F l.length cf, .func (.func 45) #[] #[.pointer (some ⟨w.heap.size, 0, none⟩)]] W fun e w' => e = .returned (.bool (l.any fun f => !fnW p f.fn)) ∧ Below W.heap.size W w' := by
    intro W hW hB
    refine con_fns _ l 45 _ W (fun f => !fnW p f.fn) (FnsV.below hgg.fns hW) (by rw [← hnl, ← hfl]; exact hs.fns) (fun a U => enter45 a _ U) (fun f hf U hU => ?_)
    have hfc : f.fn ∈ p.fns := by rw [← he]; exact List.mem_map.2 ⟨f, hf, rfl⟩
    have hWU := hW.trans (hU.mono hW.size)
    obtain ⟨j, hj⟩ := List.mem_iff_getElem?.1 hf
    have hat : InsV w f.cv f.l ∧ f.l.map (·.1) = f.fn.code := by
      rcases hfr with e | ⟨b, o, e, k⟩
      · rw [e] at hj; simp at hj
      · exact ⟨(k j f hj).code, (k j f hj).eq⟩
    exact fn_any ⟨p, .slice A p.arrays.length ca, .slice F l.length cf, l⟩ f w.heap.size U (hgg.below hWU) (hat.1.below hWU) hat.2 (fun x hx => ⟨hs.op _ hfc x hx, hs.args _ hfc x hx⟩) (hs.code _ hfc) (hB.below hU)
  have hres : rightW p = (decide (na ≤ 16 ∧ nl ≤ 64) && mainW' p && !(p.arrays.any fun n => !decide (1 ≤ n ∧ n ≤ 4096)) && !(l.any fun f => !fnW p f.fn)) := by
    rw [rightW, ← hna, hfl]
    congr 1
    · congr 1
      rw [List.not_any_eq_all_not]; simp
    · rw [← he, List.all_map, List.not_any_eq_all_not]; simp; rfl
  have hmain : ∀ y, l[p.main.toNat]? = some y → 0 ≤ p.main → p.main < nl → mainW' p = decide (y.fn.params = 0) := by
    intro y hy h0 h1
    have : p.fns[p.main.toNat]? = some y.fn := by rw [← he, List.getElem?_map, hy]; rfl
    rw [mainW', this, decide_eq_true (by rw [hfl]; exact ⟨h0, h1⟩)]
    rfl
  have hmno : p.main < 0 ∨ (nl : Int) ≤ p.main → mainW' p = false := by
    intro h
    rw [mainW', decide_eq_false (by rw [hfl]; omega)]
    rfl
  have hfr0 : l = [] ∨ ∃ b o, F = some ⟨b, o, none⟩ ∧ ∀ i x, l[i]? = some x → fnAt (w.alloc (.cells #[.slice A p.arrays.length ca, .slice F l.length cf, .int .i64 p.main] 25)) b (o + i * 4) x := hfr.imp id fun ⟨b, o, e, k⟩ => ⟨b, o, e, fun i y hy => (k i y hy).below hb0⟩
  rw [← hnl] at hb0 hcF hfr0 ⊢
  rw [← hna] at hb0 hcA hcF hfr0 ⊢
  generalize (p.arrays.any fun n => !decide (1 ≤ n ∧ n ≤ 4096)) = badA at hres hcA
  generalize (l.any fun f => !fnW p f.fn) = badF at hres hcF
  generalize hmw : mainW' p = mw at hres hmain hmno
  generalize rightW p = res at hres ⊢
  have HCA := Lib.hid hcA; have HCF := Lib.hid hcF; have HR := Lib.hid hres; have HMAIN := Lib.hid hmain; have HMNO := Lib.hid hmno; have HFR := Lib.hid hfr0; have HNL := Lib.hid hnl; have HB0 := Lib.hid hb0
  clear hcA hcF hres hmain hmno hmw hfr0 hnl hb0 hgg hs hca hcf har hfr he hfl hna
  obtain ⟨W0, hW0⟩ : ∃ W0, W0 = w.alloc (.cells #[.slice A na ca, .slice F nl cf, .int .i64 p.main] 25) := ⟨_, rfl⟩
  have bb := Blk.new w 25 #[.slice A na ca, .slice F nl cf, .int .i64 p.main]
  rw [← hW0] at bb HB0 HFR
  have c0 := bb.cell 0; have c1 := bb.cell 1; have c2 := bb.cell 2
  simp only [List.getElem?_toArray, List.getElem?_cons_zero, List.getElem?_cons_succ] at c0 c1 c2
  have C0 := Lib.hid c0; have C1 := Lib.hid c1; have C2 := Lib.hid c2
  clear bb c0 c1 c2
  go_enter Tryz.func14, Tryz.ntmps14
  go_upto_region 1 with fail
  rw [← hW0]
  clear hW0
  by_cases hm : p.main < 0 ∨ (nl : Int) ≤ p.main
  case pos =>
    have HM := Lib.hid hm
    have HE := Lib.hid (show res = false by rw [HR.out, HMNO.out hm]; simp)
    clear hm HCA HCF HMAIN HMNO
    obtain ⟨bb0, hbb0⟩ : ∃ b : Bool, b = (decide (16 < (na : Int))) := ⟨_, rfl⟩
    have Hbb0 := Lib.hid hbb0; clear hbb0
    obtain ⟨bb1, hbb1⟩ : ∃ b : Bool, b = (bb0 || (decide (64 < (nl : Int)))) := ⟨_, rfl⟩
    have Hbb1 := Lib.hid hbb1; clear hbb1
    obtain ⟨bb2, hbb2⟩ : ∃ b : Bool, b = (bb1 || (decide (p.main < 0))) := ⟨_, rfl⟩
    have Hbb2 := Lib.hid hbb2; clear hbb2
    refine wp_region_vals [(none, .pointer (some ⟨w.heap.size, 0, none⟩)), (none, .slice A na ca), (none, .int .i64 (na : Int)), (none, .bool (decide (16 < (na : Int)))), (none, .bool bb0), (some (7, false), gd bb0 false (.pointer (some ⟨w.heap.size, 1, none⟩))), (some (7, false), gd bb0 false (.slice F nl cf)), (some (7, false), gd bb0 false (.int .i64 (nl : Int))), (some (7, false), gd bb0 false (.bool (decide (64 < (nl : Int))))), (none, .bool bb1), (none, .bool bb1), (some (13, false), gd bb1 false (.pointer (some ⟨w.heap.size, 2, none⟩))), (some (13, false), gd bb1 false (.int .i64 p.main)), (some (13, false), gd bb1 false (.bool (decide (p.main < 0)))), (none, .bool bb2), (none, .bool bb2), (some (18, false), gd bb2 false (.pointer (some ⟨w.heap.size, 2, none⟩))), (some (18, false), gd bb2 false (.int .i64 p.main)), (some (18, false), gd bb2 false (.pointer (some ⟨w.heap.size, 1, none⟩))), (some (18, false), gd bb2 false (.slice F nl cf)), (some (18, false), gd bb2 false (.int .i64 (nl : Int))), (some (18, false), gd bb2 false (.bool (decide ((nl : Int) ≤ p.main)))), (none, .bool true), (none, .bool true), (some (26, false), undef), (some (26, false), undef), (some (26, false), undef), (some (26, false), undef), (some (26, false), undef), (some (26, false), undef), (some (26, false), undef), (some (26, false), undef), (none, .bool true)] mixed (by kernel_rfl) ?_
    intro FF hF
    have hL : HasL FF [(1, .pointer (some ⟨w.heap.size, 0, none⟩)), (3, .pointer (some ⟨w.heap.size, 0, none⟩)), (4, .slice A na ca), (5, .int .i64 (na : Int)), (6, .bool (decide (16 < (na : Int)))), (7, .bool bb0), (8, gd bb0 false (.pointer (some ⟨w.heap.size, 1, none⟩))), (9, gd bb0 false (.slice F nl cf)), (10, gd bb0 false (.int .i64 (nl : Int))), (11, gd bb0 false (.bool (decide (64 < (nl : Int))))), (12, .bool bb1), (13, .bool bb1), (14, gd bb1 false (.pointer (some ⟨w.heap.size, 2, none⟩))), (15, gd bb1 false (.int .i64 p.main)), (16, gd bb1 false (.bool (decide (p.main < 0)))), (17, .bool bb2), (18, .bool bb2), (19, gd bb2 false (.pointer (some ⟨w.heap.size, 2, none⟩))), (20, gd bb2 false (.int .i64 p.main)), (21, gd bb2 false (.pointer (some ⟨w.heap.size, 1, none⟩))), (22, gd bb2 false (.slice F nl cf)), (23, gd bb2 false (.int .i64 (nl : Int))), (24, gd bb2 false (.bool (decide ((nl : Int) ≤ p.main)))), (25, .bool true), (26, .bool true), (27, undef), (28, undef), (29, undef), (30, undef), (31, undef), (32, undef), (33, undef), (34, undef), (35, .bool true)] := by unfold HasL; rw [hF]; kernel_rfl
    have HF := Lib.hid hF; clear hF
    refine ⟨?_, ?_⟩
    · intro W hW
      repeat clear ‹∀ (a : Act) (w : World), Code.wp Tryz.prog _ _ a w → _›
      have gff := gd_ff
      have gtt := gd_tt
      exact
      ResL.cons (OpRes.val (by have a1 := hL.at 0 rfl; go_simp)) (
      ResL.cons (OpRes.val (by have a3 := hL.at 1 rfl; have kk := get_b hW C0.out; go_simp)) (
      ResL.cons (OpRes.val (by have a4 := hL.at 2 rfl; go_simp)) (
      ResL.cons (OpRes.val (by have a5 := hL.at 3 rfl; go_simp)) (
      ResL.cons (OpRes.val (by rw [Hbb0.out]; have a6 := hL.at 4 rfl; go_simp)) (
      ResL.cons (OpRes.gval (hL.at 5 rfl) (fun e0 => by have a1 := hL.at 0 rfl; subst e0; go_simp)) (
      ResL.cons (OpRes.gval (hL.at 5 rfl) (fun e0 => by have a8 := hL.at 6 rfl; have kk := get_b hW C1.out; subst e0; go_simp)) (
      ResL.cons (OpRes.gval (hL.at 5 rfl) (fun e0 => by have a9 := hL.at 7 rfl; subst e0; go_simp)) (
      ResL.cons (OpRes.gval (hL.at 5 rfl) (fun e0 => by have a10 := hL.at 8 rfl; subst e0; go_simp)) (
      ResL.cons (OpRes.val (by rw [Hbb1.out]; have a7 := hL.at 5 rfl; have a11 := hL.at 9 rfl; cases bb0 <;> go_simp)) (
      ResL.cons (OpRes.val (by have a12 := hL.at 10 rfl; go_simp)) (
      ResL.cons (OpRes.gval (hL.at 11 rfl) (fun e0 => by have a1 := hL.at 0 rfl; subst e0; go_simp)) (
      ResL.cons (OpRes.gval (hL.at 11 rfl) (fun e0 => by have a14 := hL.at 12 rfl; have kk := get_b hW C2.out; subst e0; go_simp)) (
      ResL.cons (OpRes.gval (hL.at 11 rfl) (fun e0 => by have a15 := hL.at 13 rfl; subst e0; go_simp)) (
      ResL.cons (OpRes.val (by rw [Hbb2.out]; have a13 := hL.at 11 rfl; have a16 := hL.at 14 rfl; cases bb1 <;> go_simp)) (
      ResL.cons (OpRes.val (by have a17 := hL.at 15 rfl; go_simp)) (
      ResL.cons (OpRes.gval (hL.at 16 rfl) (fun e0 => by have a1 := hL.at 0 rfl; subst e0; go_simp)) (
      ResL.cons (OpRes.gval (hL.at 16 rfl) (fun e0 => by have a19 := hL.at 17 rfl; have kk := get_b hW C2.out; subst e0; go_simp)) (
      ResL.cons (OpRes.gval (hL.at 16 rfl) (fun e0 => by have a1 := hL.at 0 rfl; subst e0; go_simp)) (
      ResL.cons (OpRes.gval (hL.at 16 rfl) (fun e0 => by have a21 := hL.at 19 rfl; have kk := get_b hW C1.out; subst e0; go_simp)) (
      ResL.cons (OpRes.gval (hL.at 16 rfl) (fun e0 => by have a22 := hL.at 20 rfl; subst e0; go_simp)) (
      ResL.cons (OpRes.gval (hL.at 16 rfl) (fun e0 => by have a20 := hL.at 18 rfl; have a23 := hL.at 21 rfl; subst e0; go_simp)) (
      ResL.cons (OpRes.to (v := .bool (bb2 || (decide ((nl : Int) ≤ p.main)))) (by rw [(show (bb2 || (decide ((nl : Int) ≤ p.main))) = true by rw [Hbb2.out]; rcases HM.out with h | h <;> simp [h])]) (OpRes.val (by have a18 := hL.at 16 rfl; have a24 := hL.at 22 rfl; cases bb2 <;> go_simp))) (
      ResL.cons (OpRes.val (by have a25 := hL.at 23 rfl; go_simp)) (
      ResL.cons (OpRes.skip (hL.at 24 rfl) (rfl)) (
      ResL.cons (OpRes.skip (hL.at 24 rfl) (rfl)) (
      ResL.cons (OpRes.skip (hL.at 24 rfl) (rfl)) (
      ResL.cons (OpRes.skip (hL.at 24 rfl) (rfl)) (
      ResL.cons (OpRes.skip (hL.at 24 rfl) (rfl)) (
      ResL.cons (OpRes.skip (hL.at 24 rfl) (rfl)) (
      ResL.cons (OpRes.skip (hL.at 24 rfl) (rfl)) (
      ResL.cons (OpRes.skip (hL.at 24 rfl) (rfl)) (
      ResL.cons (OpRes.val (by have a26 := hL.at 24 rfl; have a34 := hL.at 32 rfl; go_simp)) (
      ResL.nil)))))))))))))))))))))))))))))))))
    intro W hW
    clear hL
    obtain ⟨gg, hFF⟩ : ∃ gg : Nat → Value, FF = ⟨List.toArray (gg 0 :: .pointer (some ⟨w.heap.size, 0, none⟩) :: .bool false :: gg 3 :: gg 4 :: gg 5 :: gg 6 :: gg 7 :: gg 8 :: gg 9 :: gg 10 :: gg 11 :: gg 12 :: gg 13 :: gg 14 :: gg 15 :: gg 16 :: gg 17 :: gg 18 :: gg 19 :: gg 20 :: gg 21 :: gg 22 :: gg 23 :: gg 24 :: gg 25 :: gg 26 :: gg 27 :: gg 28 :: gg 29 :: gg 30 :: gg 31 :: gg 32 :: gg 33 :: gg 34 :: .bool true :: gg 36 :: gg 37 :: gg 38 :: gg 39 :: gg 40 :: gg 41 :: gg 42 :: gg 43 :: []), []⟩ := ⟨fun k => FF.tmps.getD k undef, by rw [HF.out]; kernel_rfl⟩
    clear HF
    subst hFF
    refine wpList_nil ?_
    have HV := Lib.hid (HB0.out.trans (hW.mono HB0.out.size))
    clear hW
    go_wp2_with fail
    go_ret
    exact ⟨ret_b HE.out.symm, HV.out⟩
  case neg =>
    have hm0 : 0 ≤ p.main := by omega
    have hm1 : p.main < (nl : Int) := by omega
    obtain ⟨y, hy⟩ : ∃ y, l[p.main.toNat]? = some y := ⟨_, List.getElem?_eq_getElem (by rw [← HNL.out]; omega)⟩
    obtain ⟨fb, fo, rfl, hat⟩ : ∃ b o, F = some ⟨b, o, none⟩ ∧ ∀ i x, l[i]? = some x → fnAt W0 b (o + i * 4) x := by
      rcases HFR.out with e | ⟨b, o, e, k⟩
      · rw [e] at hy; simp at hy
      · exact ⟨b, o, e, k⟩
    have HY1 := Lib.hid (hat _ y hy).c1
    have HMW := Lib.hid (HMAIN.out y hy hm0 hm1)
    have HM0 := Lib.hid hm0; have HM1 := Lib.hid hm1
    clear hm hm0 hm1 hy hat HMAIN HMNO HFR
    obtain ⟨bb0, hbb0⟩ : ∃ b : Bool, b = (decide (16 < (na : Int))) := ⟨_, rfl⟩
    have Hbb0 := Lib.hid hbb0; clear hbb0
    obtain ⟨bb1, hbb1⟩ : ∃ b : Bool, b = (bb0 || (decide (64 < (nl : Int)))) := ⟨_, rfl⟩
    have Hbb1 := Lib.hid hbb1; clear hbb1
    obtain ⟨bb2, hbb2⟩ : ∃ b : Bool, b = (bb1 || (decide (p.main < 0))) := ⟨_, rfl⟩
    have Hbb2 := Lib.hid hbb2; clear hbb2
    obtain ⟨bb3, hbb3⟩ : ∃ b : Bool, b = (bb2 || (decide ((nl : Int) ≤ p.main))) := ⟨_, rfl⟩
    have Hbb3 := Lib.hid hbb3; clear hbb3
    obtain ⟨bb4, hbb4⟩ : ∃ b : Bool, b = (bb3 || (y.fn.params != 0)) := ⟨_, rfl⟩
    have Hbb4 := Lib.hid hbb4; clear hbb4
    refine wp_region_vals [(none, .pointer (some ⟨w.heap.size, 0, none⟩)), (none, .slice A na ca), (none, .int .i64 (na : Int)), (none, .bool (decide (16 < (na : Int)))), (none, .bool bb0), (some (7, false), gd bb0 false (.pointer (some ⟨w.heap.size, 1, none⟩))), (some (7, false), gd bb0 false (.slice (some ⟨fb, fo, none⟩) nl cf)), (some (7, false), gd bb0 false (.int .i64 (nl : Int))), (some (7, false), gd bb0 false (.bool (decide (64 < (nl : Int))))), (none, .bool bb1), (none, .bool bb1), (some (13, false), gd bb1 false (.pointer (some ⟨w.heap.size, 2, none⟩))), (some (13, false), gd bb1 false (.int .i64 p.main)), (some (13, false), gd bb1 false (.bool (decide (p.main < 0)))), (none, .bool bb2), (none, .bool bb2), (some (18, false), gd bb2 false (.pointer (some ⟨w.heap.size, 2, none⟩))), (some (18, false), gd bb2 false (.int .i64 p.main)), (some (18, false), gd bb2 false (.pointer (some ⟨w.heap.size, 1, none⟩))), (some (18, false), gd bb2 false (.slice (some ⟨fb, fo, none⟩) nl cf)), (some (18, false), gd bb2 false (.int .i64 (nl : Int))), (some (18, false), gd bb2 false (.bool (decide ((nl : Int) ≤ p.main)))), (none, .bool bb3), (none, .bool bb3), (some (26, false), gd bb3 false (.pointer (some ⟨w.heap.size, 1, none⟩))), (some (26, false), gd bb3 false (.slice (some ⟨fb, fo, none⟩) nl cf)), (some (26, false), gd bb3 false (.pointer (some ⟨w.heap.size, 2, none⟩))), (some (26, false), gd bb3 false (.int .i64 p.main)), (some (26, false), gd bb3 false (.pointer (some ⟨fb, fo + p.main.toNat * 4, none⟩))), (some (26, false), gd bb3 false (.pointer (some ⟨fb, fo + p.main.toNat * 4 + 1, none⟩))), (some (26, false), gd bb3 false (.int .i64 y.fn.params)), (some (26, false), gd bb3 false (.bool (y.fn.params != 0))), (none, .bool bb4)] mixed (by kernel_rfl) ?_
    intro FF hF
    have hL : HasL FF [(1, .pointer (some ⟨w.heap.size, 0, none⟩)), (3, .pointer (some ⟨w.heap.size, 0, none⟩)), (4, .slice A na ca), (5, .int .i64 (na : Int)), (6, .bool (decide (16 < (na : Int)))), (7, .bool bb0), (8, gd bb0 false (.pointer (some ⟨w.heap.size, 1, none⟩))), (9, gd bb0 false (.slice (some ⟨fb, fo, none⟩) nl cf)), (10, gd bb0 false (.int .i64 (nl : Int))), (11, gd bb0 false (.bool (decide (64 < (nl : Int))))), (12, .bool bb1), (13, .bool bb1), (14, gd bb1 false (.pointer (some ⟨w.heap.size, 2, none⟩))), (15, gd bb1 false (.int .i64 p.main)), (16, gd bb1 false (.bool (decide (p.main < 0)))), (17, .bool bb2), (18, .bool bb2), (19, gd bb2 false (.pointer (some ⟨w.heap.size, 2, none⟩))), (20, gd bb2 false (.int .i64 p.main)), (21, gd bb2 false (.pointer (some ⟨w.heap.size, 1, none⟩))), (22, gd bb2 false (.slice (some ⟨fb, fo, none⟩) nl cf)), (23, gd bb2 false (.int .i64 (nl : Int))), (24, gd bb2 false (.bool (decide ((nl : Int) ≤ p.main)))), (25, .bool bb3), (26, .bool bb3), (27, gd bb3 false (.pointer (some ⟨w.heap.size, 1, none⟩))), (28, gd bb3 false (.slice (some ⟨fb, fo, none⟩) nl cf)), (29, gd bb3 false (.pointer (some ⟨w.heap.size, 2, none⟩))), (30, gd bb3 false (.int .i64 p.main)), (31, gd bb3 false (.pointer (some ⟨fb, fo + p.main.toNat * 4, none⟩))), (32, gd bb3 false (.pointer (some ⟨fb, fo + p.main.toNat * 4 + 1, none⟩))), (33, gd bb3 false (.int .i64 y.fn.params)), (34, gd bb3 false (.bool (y.fn.params != 0))), (35, .bool bb4)] := by unfold HasL; rw [hF]; kernel_rfl
    have HF := Lib.hid hF; clear hF
    refine ⟨?_, ?_⟩
    · intro W hW
      repeat clear ‹∀ (a : Act) (w : World), Code.wp Tryz.prog _ _ a w → _›
      have gff := gd_ff
      have gtt := gd_tt
      have hm0 := HM0.out
      have hm1 := HM1.out
      exact
      ResL.cons (OpRes.val (by have a1 := hL.at 0 rfl; go_simp)) (
      ResL.cons (OpRes.val (by have a3 := hL.at 1 rfl; have kk := get_b hW C0.out; go_simp)) (
      ResL.cons (OpRes.val (by have a4 := hL.at 2 rfl; go_simp)) (
      ResL.cons (OpRes.val (by have a5 := hL.at 3 rfl; go_simp)) (
      ResL.cons (OpRes.val (by rw [Hbb0.out]; have a6 := hL.at 4 rfl; go_simp)) (
      ResL.cons (OpRes.gval (hL.at 5 rfl) (fun e0 => by have a1 := hL.at 0 rfl; subst e0; go_simp)) (
      ResL.cons (OpRes.gval (hL.at 5 rfl) (fun e0 => by have a8 := hL.at 6 rfl; have kk := get_b hW C1.out; subst e0; go_simp)) (
      ResL.cons (OpRes.gval (hL.at 5 rfl) (fun e0 => by have a9 := hL.at 7 rfl; subst e0; go_simp)) (
      ResL.cons (OpRes.gval (hL.at 5 rfl) (fun e0 => by have a10 := hL.at 8 rfl; subst e0; go_simp)) (
      ResL.cons (OpRes.val (by rw [Hbb1.out]; have a7 := hL.at 5 rfl; have a11 := hL.at 9 rfl; cases bb0 <;> go_simp)) (
      ResL.cons (OpRes.val (by have a12 := hL.at 10 rfl; go_simp)) (
      ResL.cons (OpRes.gval (hL.at 11 rfl) (fun e0 => by have a1 := hL.at 0 rfl; subst e0; go_simp)) (
      ResL.cons (OpRes.gval (hL.at 11 rfl) (fun e0 => by have a14 := hL.at 12 rfl; have kk := get_b hW C2.out; subst e0; go_simp)) (
      ResL.cons (OpRes.gval (hL.at 11 rfl) (fun e0 => by have a15 := hL.at 13 rfl; subst e0; go_simp)) (
      ResL.cons (OpRes.val (by rw [Hbb2.out]; have a13 := hL.at 11 rfl; have a16 := hL.at 14 rfl; cases bb1 <;> go_simp)) (
      ResL.cons (OpRes.val (by have a17 := hL.at 15 rfl; go_simp)) (
      ResL.cons (OpRes.gval (hL.at 16 rfl) (fun e0 => by have a1 := hL.at 0 rfl; subst e0; go_simp)) (
      ResL.cons (OpRes.gval (hL.at 16 rfl) (fun e0 => by have a19 := hL.at 17 rfl; have kk := get_b hW C2.out; subst e0; go_simp)) (
      ResL.cons (OpRes.gval (hL.at 16 rfl) (fun e0 => by have a1 := hL.at 0 rfl; subst e0; go_simp)) (
      ResL.cons (OpRes.gval (hL.at 16 rfl) (fun e0 => by have a21 := hL.at 19 rfl; have kk := get_b hW C1.out; subst e0; go_simp)) (
      ResL.cons (OpRes.gval (hL.at 16 rfl) (fun e0 => by have a22 := hL.at 20 rfl; subst e0; go_simp)) (
      ResL.cons (OpRes.gval (hL.at 16 rfl) (fun e0 => by have a20 := hL.at 18 rfl; have a23 := hL.at 21 rfl; subst e0; go_simp)) (
      ResL.cons (OpRes.val (by rw [Hbb3.out]; have a18 := hL.at 16 rfl; have a24 := hL.at 22 rfl; cases bb2 <;> go_simp)) (
      ResL.cons (OpRes.val (by have a25 := hL.at 23 rfl; go_simp)) (
      ResL.cons (OpRes.gval (hL.at 24 rfl) (fun e0 => by have a1 := hL.at 0 rfl; subst e0; go_simp)) (
      ResL.cons (OpRes.gval (hL.at 24 rfl) (fun e0 => by have a27 := hL.at 25 rfl; have kk := get_b hW C1.out; subst e0; go_simp)) (
      ResL.cons (OpRes.gval (hL.at 24 rfl) (fun e0 => by have a1 := hL.at 0 rfl; subst e0; go_simp)) (
      ResL.cons (OpRes.gval (hL.at 24 rfl) (fun e0 => by have a29 := hL.at 27 rfl; have kk := get_b hW C2.out; subst e0; go_simp)) (
      ResL.cons (OpRes.gval (hL.at 24 rfl) (fun e0 => by have a28 := hL.at 26 rfl; have a30 := hL.at 28 rfl; subst e0; go_simp)) (
      ResL.cons (OpRes.gval (hL.at 24 rfl) (fun e0 => by have a31 := hL.at 29 rfl; subst e0; go_simp)) (
      ResL.cons (OpRes.gval (hL.at 24 rfl) (fun e0 => by have a32 := hL.at 30 rfl; have kk := get_b hW HY1.out; subst e0; go_simp)) (
      ResL.cons (OpRes.gval (hL.at 24 rfl) (fun e0 => by have a33 := hL.at 31 rfl; subst e0; go_simp)) (
      ResL.cons (OpRes.val (by rw [Hbb4.out]; have a26 := hL.at 24 rfl; have a34 := hL.at 32 rfl; cases bb3 <;> go_simp)) (
      ResL.nil)))))))))))))))))))))))))))))))))
    intro W hW
    clear hL
    obtain ⟨gg, hFF⟩ : ∃ gg : Nat → Value, FF = ⟨List.toArray (gg 0 :: .pointer (some ⟨w.heap.size, 0, none⟩) :: .bool false :: gg 3 :: gg 4 :: gg 5 :: gg 6 :: gg 7 :: gg 8 :: gg 9 :: gg 10 :: gg 11 :: gg 12 :: gg 13 :: gg 14 :: gg 15 :: gg 16 :: gg 17 :: gg 18 :: gg 19 :: gg 20 :: gg 21 :: gg 22 :: gg 23 :: gg 24 :: gg 25 :: gg 26 :: gg 27 :: gg 28 :: gg 29 :: gg 30 :: gg 31 :: gg 32 :: gg 33 :: gg 34 :: .bool bb4 :: gg 36 :: gg 37 :: gg 38 :: gg 39 :: gg 40 :: gg 41 :: gg 42 :: gg 43 :: []), []⟩ := ⟨fun k => FF.tmps.getD k undef, by rw [HF.out]; kernel_rfl⟩
    clear HF
    subst hFF
    refine wpList_nil ?_
    have HV := Lib.hid (HB0.out.trans (hW.mono HB0.out.size))
    have hcell : PrB W w.heap.size ⟨p, .slice A na ca, .slice (some ⟨fb, fo, none⟩) nl cf, l⟩ := ⟨get_b hW C0.out, get_b hW C1.out, get_b hW C2.out⟩
    have hcond : bb4 = !(decide (na ≤ 16 ∧ nl ≤ 64) && mw) := by
      have qbb0 := Hbb0.out; have qbb1 := Hbb1.out; have qbb2 := Hbb2.out; have qbb3 := Hbb3.out; have qbb4 := Hbb4.out
      subst qbb4 qbb3 qbb2 qbb1 qbb0
      rw [HMW.out]
      have hm0 := HM0.out; have hm1 := HM1.out
      have e3 : decide (p.main < 0) = false := decide_eq_false (by omega)
      have e4 : decide ((nl : Int) ≤ p.main) = false := decide_eq_false (by omega)
      have e5 : (y.fn.params != 0) = !decide (y.fn.params = 0) := by rw [bne, Bool.beq_eq_decide_eq]
      rw [e3, e4, e5]
      by_cases g1 : (16 : Int) < (na : Int)
      · have : ¬ (na ≤ 16 ∧ nl ≤ 64) := by omega
        rw [decide_eq_true g1, decide_eq_false this]; simp
      · by_cases g2 : (64 : Int) < (nl : Int)
        · have : ¬ (na ≤ 16 ∧ nl ≤ 64) := by omega
          rw [decide_eq_true g2, decide_eq_false this]; simp
        · have : na ≤ 16 ∧ nl ≤ 64 := by omega
          rw [decide_eq_false g1, decide_eq_false g2, decide_eq_true this]; simp
    cases hbb : bb4 with
    | true =>
      have HE := Lib.hid (show res = false by
        rw [hbb] at hcond
        rw [HR.out]
        revert hcond
        cases (decide (na ≤ 16 ∧ nl ≤ 64) && mw) <;> simp)
      clear hcond hbb hcell hW HCA HCF
      go_wp2_with fail
      go_ret
      exact ⟨ret_b HE.out.symm, HV.out⟩
    | false =>
      have HE := Lib.hid (show res = (!badA && !badF) by
        rw [hbb] at hcond
        rw [HR.out]
        revert hcond
        cases (decide (na ≤ 16 ∧ nl ≤ 64) && mw) <;> simp)
      have HCELL := Lib.hid hcell
      have k0 := hcell.c0
      have lf := cell_lt' hcell.c0
      have HC := Lib.hid (HCA.out W HV.out)
      clear hcond hbb hcell hW HCA
      dsimp only at k0
      go_wp2_with fail
      refine HC.out.mono ?_
      rintro e w1 ⟨rfl, hb1⟩
      have HV1 := Lib.hid (HV.out.trans (hb1.mono HV.out.size))
      have hc1 := HCELL.out.below hb1
      have k1 := hc1.c1
      have lf1 : w.heap.size < w1.heap.size := cell_lt' hc1.c0
      have HC2 := Lib.hid (HCF.out w1 HV1.out hc1)
      clear hb1 k0 hc1 HCF HCELL HC lf
      dsimp only at k1
      cases badA with
      | true =>
        have HE2 := Lib.hid (show res = false by rw [HE.out]; rfl)
        clear HC2
        go_wp2_with fail
        go_ret
        exact ⟨ret_b HE2.out.symm, HV1.out⟩
      | false =>
        have HE2 := Lib.hid (show res = !badF by rw [HE.out]; rfl)
        go_wp2_with fail
        refine HC2.out.mono ?_
        rintro e w2 ⟨rfl, hb2⟩
        have HV2 := Lib.hid (HV1.out.trans (hb2.mono HV1.out.size))
        clear hb2 k1
        go_wp2_with fail
        go_ret
        exact ⟨ret_b HE2.out.symm, HV2.out⟩
end Go.Proofs.YtgdibfnpkcdiiaaGreatDoor
