/- Joint text: MStep, MGo, MClone, MCloA, MCloB. By an AI agent. -/
import Derived.Test.YtgdibfnpkcdiiaaGreatDoorMC
import Derived.Test.YtgdibfnpkcdiiaaGreatDoorMA
import Derived.Test.YtgdibfnpkcdiiaaGreatDoorMB
import Derived.Deep.LoopGhost
/- A step. By an AI agent. -/
namespace Go.Proofs.YtgdibfnpkcdiiaaGreatDoor
open Go.RowKit

set_option maxRecDepth 100000 in
set_option maxHeartbeats 16000000 in
theorem step_done {w : World} {ρ : Nat → Option Role} {G : RG} {s : MS} (h : RunR w ρ G s) (he : s.ended = true) :
    Calls Tryz.prog 33 #[.pointer (some ⟨G.r, 0, none⟩)] w fun e w' => e = .returned (.int .i64 4) ∧ Below w.heap.size w w' := by
  have c7 : w.cell? ⟨G.r, 7, none⟩ = some (.bool true) := (h.run.cell 7).trans (by simp [RG.cells, he])
  have lr := h.run.lt
  clear h he
  go_enter Tryz.func33, Tryz.ntmps33
  go_wp2_with fail
  go_ret
  exact ⟨rfl, Below.refl _ _⟩
theorem right_one {p : PrW} (h : rightW p = true) {fn : FnP} (hf : fn ∈ p.fns) {x : In} (hx : x ∈ fn.code) : oneW p fn x = true := by
  simp only [rightW, Bool.and_eq_true, List.all_eq_true] at h
  have := h.2 fn hf
  simp only [fnW, Bool.and_eq_true, List.all_eq_true] at this
  exact this.2 x hx
theorem ins_at {w : World} {gp : PrG} (h : PrR w gp) {f i : Nat} {x : FnG} {y : InV} (hx : gp.l[f]? = some x) (hy : x.l[i]? = some y) : ∃ cb co nc cc, x.cv = .slice (some ⟨cb, co, none⟩) nc cc ∧ nc = x.l.length ∧ insAt w cb (co + i * 10) y := by
  obtain ⟨A, c, e, _, hr⟩ := h.fns
  rcases hr with hr | ⟨b, o, _, hr⟩
  · rw [hr] at hx; simp at hx
  · obtain ⟨A2, c2, e2, _, h2⟩ := (hr f x hx).code
    rcases h2 with h2 | ⟨b2, o2, e3, h2⟩
    · rw [h2] at hy; simp at hy
    · exact ⟨b2, o2, _, c2, by rw [e2, e3], rfl, h2 i y hy⟩
theorem enter_72 (a b c : Value) (W : World) : (callFunc 72 #[a, b, c]).run Tryz.prog W = .ok (.enter 72 #[a, b, c]) W := by kernel_rfl
theorem enter_73 (a b c : Value) (W : World) : (callFunc 73 #[a, b, c]).run Tryz.prog W = .ok (.enter 73 #[a, b, c]) W := by kernel_rfl
theorem enter_74 (a b c : Value) (W : World) : (callFunc 74 #[a, b, c]).run Tryz.prog W = .ok (.enter 74 #[a, b, c]) W := by kernel_rfl
theorem enter_75 (a b c : Value) (W : World) : (callFunc 75 #[a, b, c]).run Tryz.prog W = .ok (.enter 75 #[a, b, c]) W := by kernel_rfl
theorem enter_76 (a b c : Value) (W : World) : (callFunc 76 #[a, b, c]).run Tryz.prog W = .ok (.enter 76 #[a, b, c]) W := by kernel_rfl
theorem enter_77 (a b c : Value) (W : World) : (callFunc 77 #[a, b, c]).run Tryz.prog W = .ok (.enter 77 #[a, b, c]) W := by kernel_rfl
theorem enter_78 (a b c : Value) (W : World) : (callFunc 78 #[a, b, c]).run Tryz.prog W = .ok (.enter 78 #[a, b, c]) W := by kernel_rfl
theorem enter_79 (a b c : Value) (W : World) : (callFunc 79 #[a, b, c]).run Tryz.prog W = .ok (.enter 79 #[a, b, c]) W := by kernel_rfl
theorem enter_80 (a b c : Value) (W : World) : (callFunc 80 #[a, b, c]).run Tryz.prog W = .ok (.enter 80 #[a, b, c]) W := by kernel_rfl
theorem enter_81 (a b c : Value) (W : World) : (callFunc 81 #[a, b, c]).run Tryz.prog W = .ok (.enter 81 #[a, b, c]) W := by kernel_rfl
theorem enter_82 (a b c : Value) (W : World) : (callFunc 82 #[a, b, c]).run Tryz.prog W = .ok (.enter 82 #[a, b, c]) W := by kernel_rfl
theorem enter_83 (a b c : Value) (W : World) : (callFunc 83 #[a, b, c]).run Tryz.prog W = .ok (.enter 83 #[a, b, c]) W := by kernel_rfl
theorem enter_84 (a b c : Value) (W : World) : (callFunc 84 #[a, b, c]).run Tryz.prog W = .ok (.enter 84 #[a, b, c]) W := by kernel_rfl
theorem enter_85 (a b c : Value) (W : World) : (callFunc 85 #[a, b, c]).run Tryz.prog W = .ok (.enter 85 #[a, b, c]) W := by kernel_rfl
theorem enter_op {op : Nat} (h : 1 ≤ op ∧ op ≤ 14) (a b c : Value) (W : World) : (callFunc (71 + op) #[a, b, c]).run Tryz.prog W = .ok (.enter (71 + op) #[a, b, c]) W := by
  have hcs : op = 1 ∨ op = 2 ∨ op = 3 ∨ op = 4 ∨ op = 5 ∨ op = 6 ∨ op = 7 ∨ op = 8 ∨ op = 9 ∨ op = 10 ∨ op = 11 ∨ op = 12 ∨ op = 13 ∨ op = 14 := by omega
  rcases hcs with rfl | rfl | rfl | rfl | rfl | rfl | rfl | rfl | rfl | rfl | rfl | rfl | rfl | rfl
  · exact enter_72 a b c W
  · exact enter_73 a b c W
  · exact enter_74 a b c W
  · exact enter_75 a b c W
  · exact enter_76 a b c W
  · exact enter_77 a b c W
  · exact enter_78 a b c W
  · exact enter_79 a b c W
  · exact enter_80 a b c W
  · exact enter_81 a b c W
  · exact enter_82 a b c W
  · exact enter_83 a b c W
  · exact enter_84 a b c W
  · exact enter_85 a b c W
theorem tab_op {op : Nat} (h : 1 ≤ op ∧ op ≤ 14) : (#[.nilFunc, .func (Fn.func 72) #[] #[], .func (Fn.func 73) #[] #[], .func (Fn.func 74) #[] #[], .func (Fn.func 75) #[] #[], .func (Fn.func 76) #[] #[], .func (Fn.func 77) #[] #[], .func (Fn.func 78) #[] #[], .func (Fn.func 79) #[] #[], .func (Fn.func 80) #[] #[], .func (Fn.func 81) #[] #[], .func (Fn.func 82) #[] #[], .func (Fn.func 83) #[] #[], .func (Fn.func 84) #[] #[], .func (Fn.func 85) #[] #[]] : Array Value)[op]? = some (.func (Fn.func (71 + op)) #[] #[]) := by
  have hcs : op = 1 ∨ op = 2 ∨ op = 3 ∨ op = 4 ∨ op = 5 ∨ op = 6 ∨ op = 7 ∨ op = 8 ∨ op = 9 ∨ op = 10 ∨ op = 11 ∨ op = 12 ∨ op = 13 ∨ op = 14 := by omega
  rcases hcs with rfl | rfl | rfl | rfl | rfl | rfl | rfl | rfl | rfl | rfl | rfl | rfl | rfl | rfl <;> rfl

set_option maxRecDepth 100000 in
set_option maxHeartbeats 32000000 in
theorem step_more {w : World} {ρ : Nat → Option Role} {G : RG} {s : MS} (h : RunR w ρ G s) (ok : MOk G.gp.p s) (rt : rightW G.gp.p = true) (hst : s.steps ≤ 500000) (he : s.ended = false) :
    Calls Tryz.prog 33 #[.pointer (some ⟨G.r, 0, none⟩)] w fun e w' => e = .returned (.int .i64 0) ∧ ∃ ρ', Runs w' ρ' G.r G.n0 G.gp (stepM doW G.gp.p s) ∧ Kp ρ ρ' w w' := by
  have good := right_good rt
  obtain ⟨fn, x, hf, hcx, hat, _, _, hvl, hnx⟩ := ok.inst good he
  have hone := right_one rt (List.mem_of_getElem? hf) (List.mem_of_getElem? hcx)
  have hs : stepM doW G.gp.p s = doesM doW G.gp.p x s.tick := by simp [stepM, he, hat]
  rw [hs]
  obtain ⟨gx, _, _⟩ := h.fr _ _ G.fs_at
  rw [h.ft] at gx
  have hfe : fn = G.t.x.fn := by have := fns_of h.pr gx; rw [hf] at this; injection this
  have hle : G.t.x.l.map (·.1) = fn.code := by
    obtain ⟨A, c, e, _, hr⟩ := h.pr.fns
    rcases hr with hr | ⟨b, o, _, hr⟩
    · rw [hr] at gx; simp at gx
    · rw [hfe]; exact (hr _ _ gx).eq
  obtain ⟨y, hy, hyx⟩ : ∃ y, G.t.x.l[s.top.i]? = some y ∧ y.1 = x := by
    rw [← hle, List.getElem?_map] at hcx
    cases hq : G.t.x.l[s.top.i]? with
    | none => rw [hq] at hcx; simp at hcx
    | some y => rw [hq] at hcx; simp at hcx; exact ⟨y, rfl, hcx⟩
  subst hyx
  obtain ⟨_, _, _, _, _, _, hya⟩ := ins_at h.pr gx hy
  obtain ⟨YA, yc, hy2, _, _⟩ := hya.args
  obtain ⟨yn, hyn⟩ : ∃ n, n = y.1.args.length := ⟨_, rfl⟩
  rw [← hyn] at hy2
  obtain ⟨fb, cap, hfv⟩ := h.frv_form
  obtain ⟨n, hn⟩ : ∃ n, n = G.bs.length := ⟨_, rfl⟩
  have hnb : n ≤ 500000 := by have := ok.many.2; rw [← h.fb, List.length_map] at this; omega
  rw [← hn] at hfv
  obtain ⟨i, hi⟩ : ∃ i, i = s.top.i := ⟨_, rfl⟩
  have hib : i ≤ 8000 := by
    have h1 : fn.code.length ≤ 8000 := by
      simp only [rightW, Bool.and_eq_true, List.all_eq_true] at rt
      have := rt.2 fn (List.mem_of_getElem? hf)
      simp only [fnW, Bool.and_eq_true, decide_eq_true_eq] at this
      exact this.1.1.2.2.2.2
    have h2 := (List.getElem?_eq_some_iff.1 hcx).1
    omega
  have HIL := Lib.hid (show i < G.t.x.l.length by rw [hi]; exact (List.getElem?_eq_some_iff.1 hy).1)
  have HOP := Lib.hid (show (y.1.op : Int) < 15 by have := (one_ok hone).op; omega)
  have HOPS := Lib.hid (one_ok hone).op
  obtain ⟨nv, hnv⟩ : ∃ n, n = s.top.vars.length := ⟨_, rfl⟩
  have H := Lib.hid h; have OK := Lib.hid ok; have GOOD := Lib.hid good; have HST := Lib.hid hst; have HFV := Lib.hid hfv; have HNB := Lib.hid hnb; have HI := Lib.hid hi; have HN := Lib.hid hn; have HY2 := Lib.hid hy2; have HNV := Lib.hid hnv; have HONE := Lib.hid hone; have HVL := Lib.hid hvl; have GX := Lib.hid gx; have HY := Lib.hid hy; have HIB := Lib.hid hib
  have c7 : w.cell? ⟨G.r, 7, none⟩ = some (.bool false) := (h.run.cell 7).trans (by simp [RG.cells, he])
  have lr := h.run.lt
  clear h ok rt hst he good hf hcx hat hvl hnx hone hs gx hfe hle hy hya hy2 hyn hfv hn hnb hi hnv hib
  go_enter Tryz.func33, Tryz.ntmps33
  go_upto_region 6 with fail
  clear c7 lr
  obtain ⟨W0, hW0⟩ : ∃ W0, W0 = w.alloc (.cells #[.nilFunc, .func (Fn.func 72) #[] #[], .func (Fn.func 73) #[] #[], .func (Fn.func 74) #[] #[], .func (Fn.func 75) #[] #[], .func (Fn.func 76) #[] #[], .func (Fn.func 77) #[] #[], .func (Fn.func 78) #[] #[], .func (Fn.func 79) #[] #[], .func (Fn.func 80) #[] #[], .func (Fn.func 81) #[] #[], .func (Fn.func 82) #[] #[], .func (Fn.func 83) #[] #[], .func (Fn.func 84) #[] #[], .func (Fn.func 85) #[] #[]] 123) := ⟨_, rfl⟩
  obtain ⟨tb, htb⟩ : ∃ b, b = w.heap.size := ⟨_, rfl⟩
  have B0 := Lib.hid (show Below w.heap.size w W0 by rw [hW0]; exact (Below.refl _ _).alloc (Nat.le_refl _) _)
  have TB0 := Lib.hid (show Blk W0 tb 123 #[.nilFunc, .func (Fn.func 72) #[] #[], .func (Fn.func 73) #[] #[], .func (Fn.func 74) #[] #[], .func (Fn.func 75) #[] #[], .func (Fn.func 76) #[] #[], .func (Fn.func 77) #[] #[], .func (Fn.func 78) #[] #[], .func (Fn.func 79) #[] #[], .func (Fn.func 80) #[] #[], .func (Fn.func 81) #[] #[], .func (Fn.func 82) #[] #[], .func (Fn.func 83) #[] #[], .func (Fn.func 84) #[] #[], .func (Fn.func 85) #[] #[]] by rw [hW0, htb]; exact Blk.new w 123 _)
  have HTN := Lib.hid (show ρ tb = none from H.out.free (Nat.le_of_eq htb.symm))
  rw [← hW0, ← htb]
  clear hW0 htb
  have R0 := Lib.hid (H.out.below B0.out)
  obtain ⟨k, hk⟩ : ∃ k, k = s.steps + 1 := ⟨_, rfl⟩
  have e8 : IntKind.i64.wrap ((s.steps : Int) + 1) = (k : Int) := (IntWalk.i64_in _ (by have := HST.out; omega)).trans (by omega)
  have HK := Lib.hid hk; clear hk
  have c8 : W0.cell? ⟨G.r, 8, none⟩ = some (.int .i64 (s.steps : Int)) := R0.out.run.cell 8
  have f8 := R0.out.run.free 8
  have l8 := R0.out.run.lt
  go_upto_region 7 with fail
  clear c8 f8 l8 e8
  have R1 := Lib.hid (R0.out.setSteps k)
  have K1 := Lib.hid ((Kp.of_below (ρ := ρ) B0.out).trans (Kp.set (a := ⟨G.r, 8, none⟩) R0.out.runr (.int .i64 (k : Int))))
  have far : ∀ b, b ≠ G.r → (W0.setCell ⟨G.r, 8, none⟩ (.int .i64 (k : Int))).heap[b]? = W0.heap[b]? := fun b hb => Below.heap_setCell _ _ _ _ hb
  obtain ⟨W1, hW1⟩ : ∃ W1, W1 = W0.setCell ⟨G.r, 8, none⟩ (.int .i64 (k : Int)) := ⟨_, rfl⟩
  rw [← hW1] at R1 K1 far ⊢
  clear hW1
  have TB1 := Lib.hid (show Blk W1 tb 123 #[.nilFunc, .func (Fn.func 72) #[] #[], .func (Fn.func 73) #[] #[], .func (Fn.func 74) #[] #[], .func (Fn.func 75) #[] #[], .func (Fn.func 76) #[] #[], .func (Fn.func 77) #[] #[], .func (Fn.func 78) #[] #[], .func (Fn.func 79) #[] #[], .func (Fn.func 80) #[] #[], .func (Fn.func 81) #[] #[], .func (Fn.func 82) #[] #[], .func (Fn.func 83) #[] #[], .func (Fn.func 84) #[] #[], .func (Fn.func 85) #[] #[]] from (far tb (fun e => by have := HTN.out; rw [e, H.out.runr] at this; cases this)).trans TB0.out)
  have cb_ne : ∀ b, ρ b = none → b < w.heap.size → W1.heap[b]? = w.heap[b]? := fun b hb hl => K1.out.block b hl hb
  clear far R0 TB0
  have TOP := Lib.hid (top_any G.r fb n (n + 1) cap W1 (R1.out.frvc HFV.out) rfl (by have := HNB.out; omega))
  go_wp2_with fail
  refine TOP.out.mono ?_
  rintro e w2 ⟨rfl, hb2⟩
  have R2 := Lib.hid (R1.out.below hb2)
  have K2 := Lib.hid (K1.out.trans (Kp.of_below hb2))
  have TB2 := Lib.hid (TB1.out.below hb2)
  clear hb2 TOP R1 K1 TB1 cb_ne
  go_upto_region 8 with fail
  obtain ⟨cb, co, nc, cc, hcv, hnc, hya⟩ := ins_at R2.out.pr GX.out HY.out
  rw [← HI.out] at hya
  have Y0 := Lib.hid hya.c0; have Y1 := Lib.hid hya.c1; have Y2 := Lib.hid hya.c2; have Y3 := Lib.hid hya.c3; have Y4 := Lib.hid hya.c4; have Y5 := Lib.hid hya.c5
  have Y6 := Lib.hid (show w2.cell? ⟨cb, co + i * 10 + 6, none⟩ = some (.slice YA yn yc) by rw [← HY2.out]; exact hya.c6)
  have Y7 := Lib.hid hya.c7; have Y8 := Lib.hid hya.c8; have Y9 := Lib.hid hya.c9
  have hft := frame_cell R2.out HFV.out
  rw [← HN.out] at hft
  have F3 := Lib.hid (show w2.cell? ⟨fb, n * 8 + 3, none⟩ = some (.slice (some ⟨cb, co, none⟩) nc cc) by rw [hft 3 (by decide), ← hcv]; rfl)
  have F5 := Lib.hid (show w2.cell? ⟨fb, n * 8 + 5, none⟩ = some (.int .i64 (i : Int)) by rw [hft 5 (by decide), HI.out, ← H.out.ft]; rfl)
  have HIN := Lib.hid (show (i : Int) < (nc : Int) by have := HIL.out; omega)
  clear hcv hnc hya hft
  refine wp_region_float [some (none, .pointer (some ⟨fb, n * 8, none⟩)), some (none, .pointer (some ⟨fb, n * 8, none⟩)), some (none, .pointer (some ⟨fb, n * 8, none⟩)), some (none, .pointer (some ⟨fb, n * 8 + 3, none⟩)), some (none, .slice (some ⟨cb, co, none⟩) nc cc), some (none, .pointer (some ⟨fb, n * 8, none⟩)), some (none, .pointer (some ⟨fb, n * 8, none⟩)), some (none, .pointer (some ⟨fb, n * 8 + 5, none⟩)), some (none, .int .i64 (i : Int)), some (none, .pointer (some ⟨cb, co + i * 10, none⟩)), some (none, .agg #[.int .u8 y.1.op, .int .i64 y.1.v, .int .i64 y.1.a, .int .i64 y.1.b, .int .i64 y.1.n, .int .u8 y.1.bin, .slice YA yn yc, .int .i64 y.1.f, .int .i64 y.1.arr, .int .i64 y.1.to]), none, none] (fun W => Below w2.heap.size w2 W) 2 mixedT (fun _ a a2 _ hd h => by cases a; cases a2; cases hd; exact h) (by kernel_rfl) (fun _ _ h => h) ?_
  intro FF AA Wd hA hF hWh hWd
  have hL : HasL FF [(4, .pointer (some ⟨fb, n * 8, none⟩)), (26, .pointer (some ⟨fb, n * 8, none⟩)), (27, .pointer (some ⟨fb, n * 8, none⟩)), (28, .pointer (some ⟨fb, n * 8, none⟩)), (29, .pointer (some ⟨fb, n * 8 + 3, none⟩)), (30, .slice (some ⟨cb, co, none⟩) nc cc), (31, .pointer (some ⟨fb, n * 8, none⟩)), (32, .pointer (some ⟨fb, n * 8, none⟩)), (33, .pointer (some ⟨fb, n * 8 + 5, none⟩)), (34, .int .i64 (i : Int)), (35, .pointer (some ⟨cb, co + i * 10, none⟩)), (36, .agg #[.int .u8 y.1.op, .int .i64 y.1.v, .int .i64 y.1.a, .int .i64 y.1.b, .int .i64 y.1.n, .int .u8 y.1.bin, .slice YA yn yc, .int .i64 y.1.f, .int .i64 y.1.arr, .int .i64 y.1.to])] := by unfold HasL; rw [hF, hA]; kernel_rfl
  have HF := Lib.hid hF; clear hF; have HA := Lib.hid hA; clear hA
  refine ⟨?_, ?_⟩
  · intro Z hZ
    repeat clear ‹∀ (a : Act) (w : World), Code.wp Tryz.prog _ _ a w → _›
    have gff := gd_ff
    have gtt := gd_tt
    have hi0 := HIN.out
    exact
    ResF.cons (FlRes.val (by have a4 := hL.at 0 rfl; go_simp)) (
    ResF.cons (FlRes.val (by have a26 := hL.at 1 rfl; go_simp)) (
    ResF.cons (FlRes.val (by have a27 := hL.at 2 rfl; go_simp)) (
    ResF.cons (FlRes.val (by have a28 := hL.at 3 rfl; go_simp)) (
    ResF.cons (FlRes.val (by have a29 := hL.at 4 rfl; have kk := get_b hZ F3.out; go_simp)) (
    ResF.cons (FlRes.val (by have a4 := hL.at 0 rfl; go_simp)) (
    ResF.cons (FlRes.val (by have a31 := hL.at 6 rfl; go_simp)) (
    ResF.cons (FlRes.val (by have a32 := hL.at 7 rfl; go_simp)) (
    ResF.cons (FlRes.val (by have a33 := hL.at 8 rfl; have kk := get_b hZ F5.out; go_simp)) (
    ResF.cons (FlRes.val (by have a30 := hL.at 5 rfl; have a34 := hL.at 9 rfl; go_simp)) (
    ResF.cons (FlRes.val (by have a35 := hL.at 10 rfl; have y0 := get_b hZ Y0.out; have y1 := get_b hZ Y1.out; have y2 := get_b hZ Y2.out; have y3 := get_b hZ Y3.out; have y4 := get_b hZ Y4.out; have y5 := get_b hZ Y5.out; have y6 := get_b hZ Y6.out; have y7 := get_b hZ Y7.out; have y8 := get_b hZ Y8.out; have y9 := get_b hZ Y9.out; go_simp)) (
    ResF.pass (
    ResF.pass (
    ResF.nil)))))))))))))
  clear hL
  obtain ⟨gf, hFF⟩ : ∃ gf : Nat → Value, FF = putL [(26, gf 26), (27, gf 27), (28, gf 28), (29, gf 29), (30, gf 30), (31, gf 31), (32, gf 32), (33, gf 33), (34, gf 34), (35, gf 35), (36, .agg #[.int .u8 y.1.op, .int .i64 y.1.v, .int .i64 y.1.a, .int .i64 y.1.b, .int .i64 y.1.n, .int .u8 y.1.bin, .slice YA yn yc, .int .i64 y.1.f, .int .i64 y.1.arr, .int .i64 y.1.to])] AA := ⟨fun k => FF.tmps.getD k undef, by rw [HF.out, HA.out]; kernel_rfl⟩
  clear HF
  rw [HA.out] at hFF; clear HA
  simp only [putL, Act.put, List.setIfInBounds_toArray, List.set_cons_zero, List.set_cons_succ] at hFF
  subst hFF
  have R3 := Lib.hid (R2.out.below hWd); have K3 := Lib.hid (K2.out.trans (Kp.of_below hWd)); have TB3 := Lib.hid (TB2.out.below hWd)
  refine wpAnyS_one 11 rfl (by kernel_rfl) (fun KK hK => ?_)
  go_simp
  refine hK.out _ _ (Or.inl (hWd.alloc hWd.size _)) ?_
  clear hK
  refine wpAnyS_one 12 rfl (by kernel_rfl) (fun KK hK => ?_)
  go_simp
  refine hK.out _ _ (Or.inr (by kernel_rfl)) ?_
  clear hK
  refine wpAnyS_end (by kernel_rfl) ?_
  have B4 := Lib.hid (show Below Wd.heap.size Wd (Wd.alloc (.cells #[.int .u8 y.1.op, .int .i64 y.1.v, .int .i64 y.1.a, .int .i64 y.1.b, .int .i64 y.1.n, .int .u8 y.1.bin, .slice YA yn yc, .int .i64 y.1.f, .int .i64 y.1.arr, .int .i64 y.1.to] 71)) from (Below.refl _ _).alloc (Nat.le_refl _) _)
  have R4 := Lib.hid (R3.out.below B4.out); have K4 := Lib.hid (K3.out.trans (Kp.of_below B4.out)); have TB4 := Lib.hid (TB3.out.below B4.out)
  have hxb := Blk.new Wd 71 #[.int .u8 y.1.op, .int .i64 y.1.v, .int .i64 y.1.a, .int .i64 y.1.b, .int .i64 y.1.n, .int .u8 y.1.bin, .slice YA yn yc, .int .i64 y.1.f, .int .i64 y.1.arr, .int .i64 y.1.to]
  rw [hWh] at hxb
  have XB4 := Lib.hid hxb
  have HXN := Lib.hid (show ρ w2.heap.size = none from R2.out.free (Nat.le_refl _))
  clear hxb
  obtain ⟨W4, hW4⟩ : ∃ W, W = Wd.alloc (.cells #[.int .u8 y.1.op, .int .i64 y.1.v, .int .i64 y.1.a, .int .i64 y.1.b, .int .i64 y.1.n, .int .u8 y.1.bin, .slice YA yn yc, .int .i64 y.1.f, .int .i64 y.1.arr, .int .i64 y.1.to] 71) := ⟨_, rfl⟩
  obtain ⟨xb, hxb⟩ : ∃ b, b = w2.heap.size := ⟨_, rfl⟩
  rw [← hW4] at R4 K4 TB4 XB4 ⊢
  rw [← hxb] at XB4 HXN ⊢
  clear hW4 hxb hWd hWh R2 K2 R3 K3 TB2 TB3 B4 F3 F5 Y0 Y1 Y2 Y3 Y4 Y5 Y6 Y7 Y8 Y9
  have c5a := frame_cell R4.out HFV.out 5 (by decide)
  have f5 := frame_free R4.out HFV.out (G.bs.length * 8 + 5)
  rw [← HN.out] at c5a f5
  have c5 : W4.cell? ⟨fb, n * 8 + 5, none⟩ = some (.int .i64 (i : Int)) := by rw [c5a, HI.out, ← H.out.ft]; rfl
  clear c5a
  have l5 := cell_lt' c5
  obtain ⟨j, hj⟩ : ∃ j, j = i + 1 := ⟨_, rfl⟩
  have e9 : IntKind.i64.wrap ((i : Int) + 1) = (j : Int) := (IntWalk.i64_in _ (by have := HIB.out; omega)).trans (by omega)
  have HJ := Lib.hid hj; clear hj
  go_upto_region 10 with fail
  clear c5 f5 l5 e9
  have FW := Lib.hid (R4.out.frowr fb (by rw [HFV.out]; rfl))
  have r5 := R4.out.setAt HFV.out j
  rw [← HN.out] at r5
  have K5 := Lib.hid (K4.out.trans (Kp.set (a := ⟨fb, n * 8 + 5, none⟩) FW.out (.int .i64 (j : Int))))
  have TB5 := Lib.hid (TB4.out.far (fun e => by have := HTN.out; rw [e, FW.out] at this; cases this) (n * 8 + 5) (.int .i64 (j : Int)))
  have XB := Lib.hid (XB4.out.far (fun e => by have := HXN.out; rw [e, FW.out] at this; cases this) (n * 8 + 5) (.int .i64 (j : Int)))
  have HTK : s.tick = { s with steps := k, top := { s.top with i := j } } := by rw [HK.out, HJ.out, HI.out]; rfl
  have r6 : RunR (W4.setCell ⟨fb, n * 8 + 5, none⟩ (.int .i64 (j : Int))) ρ { G with t := { G.t with r := { G.t.r with i := j } } } s.tick := by rw [HTK]; exact r5
  obtain ⟨G5, hG5⟩ : ∃ G5 : RG, G5 = { G with t := { G.t with r := { G.t.r with i := j } } } := ⟨_, rfl⟩
  rw [← hG5] at r6
  have R5 := Lib.hid r6
  have E1 := Lib.hid (show G5.r = G.r by rw [hG5]); have E2 := Lib.hid (show G5.n0 = G.n0 by rw [hG5]); have E3 := Lib.hid (show G5.gp = G.gp by rw [hG5]); have E4 := Lib.hid (show G5.t.b = G.t.b by rw [hG5]); have E5 := Lib.hid (show G5.bs = G.bs by rw [hG5]); have E6 := Lib.hid (show G5.frv = G.frv by rw [hG5])
  have E7 := Lib.hid (show G5.t.x = G.t.x by rw [hG5])
  clear hG5 r6 r5 HTK R4 K4 TB4 XB4
  obtain ⟨W5, hW5⟩ : ∃ W, W = W4.setCell ⟨fb, n * 8 + 5, none⟩ (.int .i64 (j : Int)) := ⟨_, rfl⟩
  rw [← hW5] at R5 K5 TB5 XB ⊢
  clear hW5
  have F6 := Lib.hid (show W5.cell? ⟨fb, n * 8 + 6, none⟩ = some (.slice (some ⟨G.t.b, 0, none⟩) nv nv) by
    have := frame_cell R5.out (E6.out.trans HFV.out) 6 (by decide)
    rw [E5.out, ← HN.out] at this
    rw [this, HNV.out, ← E4.out]
    show some (Value.slice (some ⟨G5.t.b, 0, none⟩) G5.t.r.vars.length G5.t.r.vars.length) = _
    rw [R5.out.ft]; rfl)
  have TB := Lib.hid (show W5.cell? ⟨tb, y.1.op, none⟩ = some (.func (Fn.func (71 + y.1.op)) #[] #[]) by rw [TB5.out.cell]; exact tab_op HOPS.out)
  refine wp_region_float [some (none, .pointer (some ⟨xb, 0, none⟩)), some (none, .int .u8 y.1.op), some (none, .pointer (some ⟨tb, y.1.op, none⟩)), some (none, .func (Fn.func (71 + y.1.op)) #[] #[]), some (none, .pointer (some ⟨G.r, 0, none⟩)), some (none, .agg #[.int .u8 y.1.op, .int .i64 y.1.v, .int .i64 y.1.a, .int .i64 y.1.b, .int .i64 y.1.n, .int .u8 y.1.bin, .slice YA yn yc, .int .i64 y.1.f, .int .i64 y.1.arr, .int .i64 y.1.to]), some (none, .pointer (some ⟨fb, n * 8, none⟩)), some (none, .pointer (some ⟨fb, n * 8, none⟩)), some (none, .pointer (some ⟨fb, n * 8 + 6, none⟩)), some (none, .slice (some ⟨G.t.b, 0, none⟩) nv nv), none] (fun W => Below W5.heap.size W5 W) 1 mixedT (fun _ a a2 _ hd h => by cases a; cases a2; cases hd; exact h) (by kernel_rfl) (fun _ _ h => h) ?_
  intro FF AA Wd hA hF hWh hWd
  have hL : HasL FF [(0, .pointer (some ⟨G.r, 0, none⟩)), (3, .pointer (some ⟨tb, 0, none⟩)), (4, .pointer (some ⟨fb, n * 8, none⟩)), (5, .pointer (some ⟨xb, 0, none⟩)), (44, .pointer (some ⟨xb, 0, none⟩)), (45, .int .u8 y.1.op), (46, .pointer (some ⟨tb, y.1.op, none⟩)), (47, .func (Fn.func (71 + y.1.op)) #[] #[]), (48, .pointer (some ⟨G.r, 0, none⟩)), (49, .agg #[.int .u8 y.1.op, .int .i64 y.1.v, .int .i64 y.1.a, .int .i64 y.1.b, .int .i64 y.1.n, .int .u8 y.1.bin, .slice YA yn yc, .int .i64 y.1.f, .int .i64 y.1.arr, .int .i64 y.1.to]), (50, .pointer (some ⟨fb, n * 8, none⟩)), (51, .pointer (some ⟨fb, n * 8, none⟩)), (52, .pointer (some ⟨fb, n * 8 + 6, none⟩)), (53, .slice (some ⟨G.t.b, 0, none⟩) nv nv)] := by unfold HasL; rw [hF, hA]; kernel_rfl
  have HF := Lib.hid hF; clear hF; have HA := Lib.hid hA; clear hA
  refine ⟨?_, ?_⟩
  · intro Z hZ
    repeat clear ‹∀ (a : Act) (w : World), Code.wp Tryz.prog _ _ a w → _›
    have ggf := gd_ff
    have gtt := gd_tt
    have ho0 := HOP.out
    exact
    ResF.cons (FlRes.val (by have a5 := hL.at 3 rfl; go_simp)) (
    ResF.cons (FlRes.val (by have a44 := hL.at 4 rfl; have kk := get_b hZ (XB.out.cell 0); go_simp)) (
    ResF.cons (FlRes.val (by have a3 := hL.at 1 rfl; have a45 := hL.at 5 rfl; go_simp)) (
    ResF.cons (FlRes.val (by have a46 := hL.at 6 rfl; have k0 := get_b hZ TB.out; go_simp)) (
    ResF.cons (FlRes.val (by have a0 := hL.at 0 rfl; go_simp)) (
    ResF.cons (FlRes.val (by have a5 := hL.at 3 rfl; have y0 := get_b hZ (XB.out.cell 0); have y1 := get_b hZ (XB.out.cell 1); have y2 := get_b hZ (XB.out.cell 2); have y3 := get_b hZ (XB.out.cell 3); have y4 := get_b hZ (XB.out.cell 4); have y5 := get_b hZ (XB.out.cell 5); have y6 := get_b hZ (XB.out.cell 6); have y7 := get_b hZ (XB.out.cell 7); have y8 := get_b hZ (XB.out.cell 8); have y9 := get_b hZ (XB.out.cell 9); go_simp)) (
    ResF.cons (FlRes.val (by have a4 := hL.at 2 rfl; go_simp)) (
    ResF.cons (FlRes.val (by have a50 := hL.at 10 rfl; go_simp)) (
    ResF.cons (FlRes.val (by have a51 := hL.at 11 rfl; go_simp)) (
    ResF.cons (FlRes.val (by have a52 := hL.at 12 rfl; have kk := get_b hZ F6.out; go_simp)) (
    ResF.pass (
    ResF.nil)))))))))))
  clear hL
  obtain ⟨gg, hFF⟩ : ∃ gg : Nat → Value, FF = putL [(44, gg 44), (45, gg 45), (46, gg 46), (47, .func (Fn.func (71 + y.1.op)) #[] #[]), (48, .pointer (some ⟨G.r, 0, none⟩)), (49, .agg #[.int .u8 y.1.op, .int .i64 y.1.v, .int .i64 y.1.a, .int .i64 y.1.b, .int .i64 y.1.n, .int .u8 y.1.bin, .slice YA yn yc, .int .i64 y.1.f, .int .i64 y.1.arr, .int .i64 y.1.to]), (50, gg 50), (51, gg 51), (52, gg 52), (53, .slice (some ⟨G.t.b, 0, none⟩) nv nv)] AA := ⟨fun k => FF.tmps.getD k undef, by rw [HF.out, HA.out]; kernel_rfl⟩
  clear HF
  rw [HA.out] at hFF; clear HA
  simp only [putL, Act.put, List.setIfInBounds_toArray, List.set_cons_zero, List.set_cons_succ] at hFF
  subst hFF
  have INS : Hid (∃ ρ1, Calls Tryz.prog (71 + y.1.op) #[.pointer (some ⟨G.r, 0, none⟩), .agg #[.int .u8 y.1.op, .int .i64 y.1.v, .int .i64 y.1.a, .int .i64 y.1.b, .int .i64 y.1.n, .int .u8 y.1.bin, .slice YA yn yc, .int .i64 y.1.f, .int .i64 y.1.arr, .int .i64 y.1.to], .slice (some ⟨G.t.b, 0, none⟩) nv nv] Wd fun e w' => e = .returned (.tuple #[]) ∧ ∃ ρ', Runs w' ρ' G.r G.n0 G.gp (doesM doW G.gp.p y.1 s.tick) ∧ Kp ρ1 ρ' Wd w' ∧ ρ1 = ρ) := Lib.hid (by
    have R6 := R5.out.below hWd
    have hyv : insV y = .agg #[.int .u8 y.1.op, .int .i64 y.1.v, .int .i64 y.1.a, .int .i64 y.1.b, .int .i64 y.1.n, .int .u8 y.1.bin, .slice YA yn yc, .int .i64 y.1.f, .int .i64 y.1.arr, .int .i64 y.1.to] := by unfold insV; rw [HY2.out]
    have := ins_any R6 (fn := fn) (x := y) ⟨by rw [E3.out]; exact HONE.out, HVL.out, fun q => OK.out.v q, by have := OK.out.many; have := HST.out; show s.evs.length ≤ _; omega, by rw [E5.out, ← HN.out]; have := HNB.out; omega, by rw [E3.out]; exact OK.out.arr, by rw [E3.out]; exact GOOD.out, into_change (g := s.top) (g' := s.tick.top) rfl rfl _ OK.out.into, fun w1 hb => by
      obtain ⟨_, _, _, _, _, _, hya⟩ := ins_at R6.pr (by rw [E3.out]; exact GX.out) HY.out
      exact hya.args.below hb⟩
    rw [hyv, E1.out, E2.out, E3.out, E4.out] at this
    have hnv : s.tick.top.vars.length = nv := HNV.out.symm
    rw [hnv] at this
    exact ⟨ρ, this.mono fun e w' ⟨q1, ρ', q2, q3⟩ => ⟨q1, ρ', q2, q3, rfl⟩⟩)
  have K6 := Lib.hid (K5.out.trans (Kp.of_below (ρ := ρ) hWd))
  refine wpAnyS_one 10 rfl (by kernel_rfl) (fun KK hK => ?_)
  have en := fun a b c W => enter_op HOPS.out a b c W
  obtain ⟨ρ1, hins⟩ := INS.out
  have HINS := Lib.hid hins
  clear hins INS
  go_simp
  refine HINS.out.mono ?_
  rintro e w' ⟨rfl, ρ2, hr, hk, rfl⟩
  have RF := Lib.hid hr; have KF := Lib.hid (K6.out.trans hk)
  clear hr hk HINS en
  go_simp
  refine hK.out _ _ (Or.inr (by kernel_rfl)) ?_
  clear hK
  refine wpAnyS_end (by kernel_rfl) ?_
  go_wp2_with fail
  go_ret
  exact ⟨rfl, ρ2, RF.out, KF.out⟩
end Go.Proofs.YtgdibfnpkcdiiaaGreatDoor

/- Many steps; what a run tells of itself. By an AI agent. -/
namespace Go.Proofs.YtgdibfnpkcdiiaaGreatDoor
open Go.RowKit

/-- All that is known of a run at work. -/
structure RunOk (gp : PrG) : Prop where
  rt : rightW gp.p = true
  num : ∀ x : In, (∃ f ∈ gp.p.fns, x ∈ f.code) → I64 x.n
theorem RunOk.good {gp : PrG} (h : RunOk gp) : PrGood gp.p := right_good h.rt
theorem RunOk.step {gp : PrG} (h : RunOk gp) {s : MS} (ok : MOk gp.p s) : MOk gp.p (stepM doW gp.p s) := step_ok doW ok h.good doW_i64 h.num
theorem RunOk.run {gp : PrG} (h : RunOk gp) (n : Nat) {s : MS} (ok : MOk gp.p s) : MOk gp.p (runM doW gp.p n s) := run_ok doW h.good doW_i64 h.num n ok
theorem stepr_done {w : World} {ρ : Nat → Option Role} {r n0 : Nat} {gp : PrG} {s : MS} (h : Runs w ρ r n0 gp s) (he : s.ended = true) :
    Calls Tryz.prog 33 #[.pointer (some ⟨r, 0, none⟩)] w fun e w' => e = .returned (.int .i64 4) ∧ Below w.heap.size w w' := by
  obtain ⟨G, rfl, rfl, rfl, h⟩ := h
  exact step_done h he
theorem stepr_more {w : World} {ρ : Nat → Option Role} {r n0 : Nat} {gp : PrG} {s : MS} (h : Runs w ρ r n0 gp s) (ok : MOk gp.p s) (ro : RunOk gp) (hst : s.steps ≤ 500000) (he : s.ended = false) :
    Calls Tryz.prog 33 #[.pointer (some ⟨r, 0, none⟩)] w fun e w' => e = .returned (.int .i64 0) ∧ ∃ ρ', Runs w' ρ' r n0 gp (stepM doW gp.p s) ∧ Kp ρ ρ' w w' := by
  obtain ⟨G, rfl, rfl, rfl, h⟩ := h
  exact step_more h ok ro.rt hst he
theorem run_succ {p : PrW} (i : Nat) (s : MS) : runM doW p (i + 1) s = stepM doW p (runM doW p i s) := run_add doW i 1 s
theorem cnt_succ {p : PrW} {i : Nat} {s : MS} (h : cntM doW p i s = i) (he : (runM doW p i s).ended = false) : cntM doW p (i + 1) s = i + 1 := by
  rw [cnt_add doW i 1 s, h]; simp [cntM, he]
theorem cnt_stop {p : PrW} {i N : Nat} {s : MS} (hi : i ≤ N) (h : cntM doW p i s = i) (he : (runM doW p i s).ended = true) : cntM doW p N s = i ∧ runM doW p N s = runM doW p i s := by
  obtain ⟨d, rfl⟩ := Nat.exists_eq_add_of_le hi
  rw [cnt_add doW i d s, run_add doW i d s, h, cnt_ended doW d he, run_ended doW d he]
  exact ⟨rfl, rfl⟩
set_option maxRecDepth 100000 in
set_option maxHeartbeats 16000000 in
theorem go_any {w : World} {ρ : Nat → Option Role} {r n0 : Nat} {gp : PrG} {s : MS} (h : Runs w ρ r n0 gp s) (ok : MOk gp.p s) (ro : RunOk gp) (N : Int) (hN : N ≤ 100000) (hst : s.steps ≤ 100000) :
    Calls Tryz.prog 25 #[.pointer (some ⟨r, 0, none⟩), .int .i64 N] w fun e w' => e = .returned (.int .i64 (cntM doW gp.p N.toNat s : Int)) ∧ ∃ ρ', Runs w' ρ' r n0 gp (runM doW gp.p N.toNat s) ∧ Kp ρ ρ' w w' := by
  obtain ⟨M, hM⟩ : ∃ M, M = N.toNat := ⟨_, rfl⟩
  rw [← hM]
  have H := Lib.hid h; have OK := Lib.hid ok; have RO := Lib.hid ro; have HN := Lib.hid hN; have HST := Lib.hid hst; have HM := Lib.hid hM
  clear h ok ro hN hst hM
  go_enter Tryz.func25, Tryz.ntmps25
  go_wp2_with fail
  go_loopg [5, 6, 7, 8, 9, 10, 11, 12, 13] M (fun gk v u6 u7 u8 u9 u10 u11 u12 u13 wr => ∃ (i : Nat) (ρi : Nat → Option Role), i ≤ M ∧ M - i ≤ gk ∧ v = .int .i64 i ∧ Hid (Runs wr ρi r n0 gp (runM doW gp.p i s)) ∧ Hid (Kp ρ ρi w wr) ∧ Hid (cntM doW gp.p i s = i))
  case atStart => exact ⟨0, ρ, Nat.zero_le _, Nat.le_refl _, rfl, H, Lib.hid (Kp.refl _ _), Lib.hid rfl⟩
  case round =>
    obtain ⟨i, ρi, hi, hgk, rfl, HR, HK, HC⟩ := hrel
    by_cases hlt : i < M
    case neg =>
      have q : decide ((i : Int) < N) = false := decide_eq_false (by have := HM.out; omega)
      have E := Lib.hid (show i = M by omega)
      clear hlt
      go_wp2_with fail
      go_ret
      exact ⟨by rw [← E.out, HC.out]; rfl, ρi, by rw [← E.out]; exact HR.out, HK.out⟩
    case pos =>
      have q : decide ((i : Int) < N) = true := decide_eq_true (by have := HM.out; omega)
      have hok := RO.out.run i OK.out
      cases he : (runM doW gp.p i s).ended with
      | true =>
        obtain ⟨c1, c2⟩ := cnt_stop hi HC.out he
        have STP := Lib.hid (stepr_done HR.out he)
        have C1 := Lib.hid c1; have C2 := Lib.hid c2
        clear hok he c1 c2
        go_wp2_with fail
        refine STP.out.mono ?_
        rintro e w1 ⟨rfl, hb⟩
        have HB := Lib.hid hb; clear hb STP
        go_wp2_with fail
        go_ret
        exact ⟨by rw [C1.out]; rfl, ρi, by rw [C2.out]; exact HR.out.below HB.out, HK.out.trans (Kp.of_below HB.out)⟩
      | false =>
        have hss : (runM doW gp.p i s).steps ≤ 500000 := by have := run_steps doW (p := gp.p) i (s := s); have := HST.out; have := HN.out; have := HM.out; omega
        have STP := Lib.hid (stepr_more HR.out hok RO.out hss he)
        have C1 := Lib.hid (cnt_succ HC.out he)
        have hib : i ≤ 100000 := by have := HN.out; have := HM.out; omega
        clear hok he hss
        go_wp2_with fail
        refine STP.out.mono ?_
        rintro e w1 ⟨rfl, ρ1, hr, hk⟩
        have R1 := Lib.hid (run_succ i s ▸ hr : Runs w1 ρ1 r n0 gp (runM doW gp.p (i + 1) s)); have K1 := Lib.hid (HK.out.trans hk)
        clear hr hk STP
        go_wp2_with fail
        cases gk with
        | zero => omega
        | succ gk =>
          go_roundg gk
          case measure => omega
          case rel => exact ⟨i + 1, ρ1, by omega, by omega, by simp, R1, K1, C1⟩
end Go.Proofs.YtgdibfnpkcdiiaaGreatDoor

/- Rows that are cloned (slices.Clone). By an AI agent. -/
namespace Go.Proofs.YtgdibfnpkcdiiaaGreatDoor
open Go.RowKit

/-- The cells of a slice. -/
structure CellsV (w : World) (A : Option Addr) (n z : Nat) (xs : List Value) : Prop where
  len : xs.length = n * z
  nil : A = none → n = 0
  at_ : ∀ ad : Addr, A = some ad → ∀ j u, xs[j]? = some u → w.cell? (ad.add j) = some u
  one : ∀ u ∈ xs, u.oneCell' = true
theorem CellsV.below {w w' : World} {A : Option Addr} {n z : Nat} {xs : List Value} (h : CellsV w A n z xs) (hb : Below w.heap.size w w') : CellsV w' A n z xs :=
  ⟨h.len, h.nil, fun ad e j u hu => get_b hb (h.at_ ad e j u hu), h.one⟩

theorem infoC2 : (Tryz.prog.info? 2).map (fun i => (i.zero, i.size, i.bytes)) = some (some (.int .i64 0), 1, 8) := by kernel_rfl
set_option maxRecDepth 100000 in
set_option maxHeartbeats 4000000 in
theorem clone68 (A : Option Addr) (n c : Nat) (xs : List Value) (w : World) (h : CellsV w A n 1 xs) (hn : n ≤ 1000000) :
    Calls Tryz.prog 68 #[.slice A n c] w fun e w' => ∃ v', e = .returned v' ∧ w'.ownsRow w.heap.size 2 1 v' n xs ∧ Below w.heap.size w w' := by
  obtain ⟨i0, hi0, hz0, hz1, hz2⟩ := info_parts infoC2
  have H := Lib.hid h
  rcases A with _ | ad
  · have h0 := h.nil rfl
    subst h0
    have hx : xs = [] := List.eq_nil_of_length_eq_zero (by rw [h.len, Nat.zero_mul])
    have HX := Lib.hid hx
    clear h hx
    have e22 : ∀ W, (binOp .eql 40 (.slice none 0 c) (.slice none 0 0)).run Tryz.prog W = .ok (.bool true) W := fun _ => by kernel_rfl
    go_enter Tryz.func68, Tryz.ntmps68
    go_wp2_with fail
    go_ret
    exact ⟨_, rfl, by rw [HX.out]; exact ⟨rfl, Or.inl ⟨rfl, rfl⟩⟩, Below.refl _ _⟩
  · clear h
    have e22 : ∀ W, (binOp .eql 40 (.slice (some ad) n c) (.slice none 0 0)).run Tryz.prog W = .ok (.bool false) W := fun _ => by kernel_rfl
    go_enter Tryz.func68, Tryz.ntmps68
    go_wp2_with (at_builtin; refine wpList_append_own _ rfl _ _ 40 rfl w.heap.size 2 i0 (.int .i64 0) 1 8 Tryz.underlying40 hi0 hz0 hz1 hz2 rfl (by decide) _ 0 [] rfl (World.ownsRow_made w #[] 0 (Nat.le_refl _) (by decide) rfl) ad n c xs rfl H.out.len (fun j u hu => ?_) H.out.one (by unfold maxLen; omega) (by omega) (by simp) ?_)
    · have := H.out.at_ ad rfl j u hu
      rw [World.cell?_alloc_lt _ _ _ (World.block_lt_of_cell? w _ this)]; exact this
    intro v' w1 hown hgrow _
    have HO := Lib.hid hown; have HG := Lib.hid hgrow
    clear hown hgrow
    go_wp2_with fail
    go_ret
    have ho : w1.ownsRow w.heap.size 2 1 v' n xs := by simpa using HO.out
    refine ⟨v', rfl, ho, ((Below.refl w.heap.size w).alloc (Nat.le_refl _) _).grown HG.out (by simp) (fun q e => ?_)⟩
    have : w.heap.size = q := by simpa [Value.ownBlock] using e
    omega

theorem infoC52 : (Tryz.prog.info? 52).map (fun i => (i.zero, i.size, i.bytes)) = some (some (.agg #[.int .u8 0, .int .i64 0]), 2, 16) := by kernel_rfl
set_option maxRecDepth 100000 in
set_option maxHeartbeats 4000000 in
theorem clone70 (A : Option Addr) (n c : Nat) (xs : List Value) (w : World) (h : CellsV w A n 2 xs) (hn : n ≤ 1000000) :
    Calls Tryz.prog 70 #[.slice A n c] w fun e w' => ∃ v', e = .returned v' ∧ w'.ownsRow w.heap.size 52 2 v' n xs ∧ Below w.heap.size w w' := by
  obtain ⟨i0, hi0, hz0, hz1, hz2⟩ := info_parts infoC52
  have H := Lib.hid h
  rcases A with _ | ad
  · have h0 := h.nil rfl
    subst h0
    have hx : xs = [] := List.eq_nil_of_length_eq_zero (by rw [h.len, Nat.zero_mul])
    have HX := Lib.hid hx
    clear h hx
    have e22 : ∀ W, (binOp .eql 46 (.slice none 0 c) (.slice none 0 0)).run Tryz.prog W = .ok (.bool true) W := fun _ => by kernel_rfl
    go_enter Tryz.func70, Tryz.ntmps70
    go_wp2_with fail
    go_ret
    exact ⟨_, rfl, by rw [HX.out]; exact ⟨rfl, Or.inl ⟨rfl, rfl⟩⟩, Below.refl _ _⟩
  · clear h
    have e22 : ∀ W, (binOp .eql 46 (.slice (some ad) n c) (.slice none 0 0)).run Tryz.prog W = .ok (.bool false) W := fun _ => by kernel_rfl
    go_enter Tryz.func70, Tryz.ntmps70
    go_wp2_with (at_builtin; refine wpList_append_own _ rfl _ _ 46 rfl w.heap.size 52 i0 (.agg #[.int .u8 0, .int .i64 0]) 2 16 Tryz.underlying46 hi0 hz0 hz1 hz2 rfl (by decide) _ 0 [] rfl (World.ownsRow_made w #[] 0 (Nat.le_refl _) (by decide) rfl) ad n c xs rfl H.out.len (fun j u hu => ?_) H.out.one (by unfold maxLen; omega) (by omega) (by simp) ?_)
    · have := H.out.at_ ad rfl j u hu
      rw [World.cell?_alloc_lt _ _ _ (World.block_lt_of_cell? w _ this)]; exact this
    intro v' w1 hown hgrow _
    have HO := Lib.hid hown; have HG := Lib.hid hgrow
    clear hown hgrow
    go_wp2_with fail
    go_ret
    have ho : w1.ownsRow w.heap.size 52 2 v' n xs := by simpa using HO.out
    refine ⟨v', rfl, ho, ((Below.refl w.heap.size w).alloc (Nat.le_refl _) _).grown HG.out (by simp) (fun q e => ?_)⟩
    have : w.heap.size = q := by simpa [Value.ownBlock] using e
    omega

theorem infoC3 : (Tryz.prog.info? 3).map (fun i => (i.zero, i.size, i.bytes)) = some (some (.int .i64 0), 1, 8) := by kernel_rfl
set_option maxRecDepth 100000 in
set_option maxHeartbeats 4000000 in
theorem clone87 (A : Option Addr) (n c : Nat) (xs : List Value) (w : World) (h : CellsV w A n 1 xs) (hn : n ≤ 1000000) :
    Calls Tryz.prog 87 #[.slice A n c] w fun e w' => ∃ v', e = .returned v' ∧ w'.ownsRow w.heap.size 3 1 v' n xs ∧ Below w.heap.size w w' := by
  obtain ⟨i0, hi0, hz0, hz1, hz2⟩ := info_parts infoC3
  have H := Lib.hid h
  rcases A with _ | ad
  · have h0 := h.nil rfl
    subst h0
    have hx : xs = [] := List.eq_nil_of_length_eq_zero (by rw [h.len, Nat.zero_mul])
    have HX := Lib.hid hx
    clear h hx
    have e22 : ∀ W, (binOp .eql 22 (.slice none 0 c) (.slice none 0 0)).run Tryz.prog W = .ok (.bool true) W := fun _ => by kernel_rfl
    go_enter Tryz.func87, Tryz.ntmps87
    go_wp2_with fail
    go_ret
    exact ⟨_, rfl, by rw [HX.out]; exact ⟨rfl, Or.inl ⟨rfl, rfl⟩⟩, Below.refl _ _⟩
  · clear h
    have e22 : ∀ W, (binOp .eql 22 (.slice (some ad) n c) (.slice none 0 0)).run Tryz.prog W = .ok (.bool false) W := fun _ => by kernel_rfl
    go_enter Tryz.func87, Tryz.ntmps87
    go_wp2_with (at_builtin; refine wpList_append_own _ rfl _ _ 22 rfl w.heap.size 3 i0 (.int .i64 0) 1 8 Tryz.underlying22 hi0 hz0 hz1 hz2 rfl (by decide) _ 0 [] rfl (World.ownsRow_made w #[] 0 (Nat.le_refl _) (by decide) rfl) ad n c xs rfl H.out.len (fun j u hu => ?_) H.out.one (by unfold maxLen; omega) (by omega) (by simp) ?_)
    · have := H.out.at_ ad rfl j u hu
      rw [World.cell?_alloc_lt _ _ _ (World.block_lt_of_cell? w _ this)]; exact this
    intro v' w1 hown hgrow _
    have HO := Lib.hid hown; have HG := Lib.hid hgrow
    clear hown hgrow
    go_wp2_with fail
    go_ret
    have ho : w1.ownsRow w.heap.size 3 1 v' n xs := by simpa using HO.out
    refine ⟨v', rfl, ho, ((Below.refl w.heap.size w).alloc (Nat.le_refl _) _).grown HG.out (by simp) (fun q e => ?_)⟩
    have : w.heap.size = q := by simpa [Value.ownBlock] using e
    omega

theorem infoC67 : (Tryz.prog.info? 67).map (fun i => (i.zero, i.size, i.bytes)) = some (some (.agg #[.string ⟨#[]⟩, .int .i64 0, .int .i64 0, .slice none 0 0]), 4, 56) := by kernel_rfl
set_option maxRecDepth 100000 in
set_option maxHeartbeats 4000000 in
theorem clone120 (A : Option Addr) (n c : Nat) (xs : List Value) (w : World) (h : CellsV w A n 4 xs) (hn : n ≤ 1000000) :
    Calls Tryz.prog 120 #[.slice A n c] w fun e w' => ∃ v', e = .returned v' ∧ w'.ownsRow w.heap.size 67 4 v' n xs ∧ Below w.heap.size w w' := by
  obtain ⟨i0, hi0, hz0, hz1, hz2⟩ := info_parts infoC67
  have H := Lib.hid h
  rcases A with _ | ad
  · have h0 := h.nil rfl
    subst h0
    have hx : xs = [] := List.eq_nil_of_length_eq_zero (by rw [h.len, Nat.zero_mul])
    have HX := Lib.hid hx
    clear h hx
    have e22 : ∀ W, (binOp .eql 23 (.slice none 0 c) (.slice none 0 0)).run Tryz.prog W = .ok (.bool true) W := fun _ => by kernel_rfl
    go_enter Tryz.func120, Tryz.ntmps120
    go_wp2_with fail
    go_ret
    exact ⟨_, rfl, by rw [HX.out]; exact ⟨rfl, Or.inl ⟨rfl, rfl⟩⟩, Below.refl _ _⟩
  · clear h
    have e22 : ∀ W, (binOp .eql 23 (.slice (some ad) n c) (.slice none 0 0)).run Tryz.prog W = .ok (.bool false) W := fun _ => by kernel_rfl
    go_enter Tryz.func120, Tryz.ntmps120
    go_wp2_with (at_builtin; refine wpList_append_own _ rfl _ _ 23 rfl w.heap.size 67 i0 (.agg #[.string ⟨#[]⟩, .int .i64 0, .int .i64 0, .slice none 0 0]) 4 56 Tryz.underlying23 hi0 hz0 hz1 hz2 rfl (by decide) _ 0 [] rfl (World.ownsRow_made w #[] 0 (Nat.le_refl _) (by decide) rfl) ad n c xs rfl H.out.len (fun j u hu => ?_) H.out.one (by unfold maxLen; omega) (by omega) (by simp) ?_)
    · have := H.out.at_ ad rfl j u hu
      rw [World.cell?_alloc_lt _ _ _ (World.block_lt_of_cell? w _ this)]; exact this
    intro v' w1 hown hgrow _
    have HO := Lib.hid hown; have HG := Lib.hid hgrow
    clear hown hgrow
    go_wp2_with fail
    go_ret
    have ho : w1.ownsRow w.heap.size 67 4 v' n xs := by simpa using HO.out
    refine ⟨v', rfl, ho, ((Below.refl w.heap.size w).alloc (Nat.le_refl _) _).grown HG.out (by simp) (fun q e => ?_)⟩
    have : w.heap.size = q := by simpa [Value.ownBlock] using e
    omega

theorem infoC71 : (Tryz.prog.info? 71).map (fun i => (i.zero, i.size, i.bytes)) = some (some (.agg #[.int .u8 0, .int .i64 0, .int .i64 0, .int .i64 0, .int .i64 0, .int .u8 0, .slice none 0 0, .int .i64 0, .int .i64 0, .int .i64 0]), 10, 96) := by kernel_rfl
set_option maxRecDepth 100000 in
set_option maxHeartbeats 4000000 in
theorem clone121 (A : Option Addr) (n c : Nat) (xs : List Value) (w : World) (h : CellsV w A n 10 xs) (hn : n ≤ 1000000) :
    Calls Tryz.prog 121 #[.slice A n c] w fun e w' => ∃ v', e = .returned v' ∧ w'.ownsRow w.heap.size 71 10 v' n xs ∧ Below w.heap.size w w' := by
  obtain ⟨i0, hi0, hz0, hz1, hz2⟩ := info_parts infoC71
  have H := Lib.hid h
  rcases A with _ | ad
  · have h0 := h.nil rfl
    subst h0
    have hx : xs = [] := List.eq_nil_of_length_eq_zero (by rw [h.len, Nat.zero_mul])
    have HX := Lib.hid hx
    clear h hx
    have e22 : ∀ W, (binOp .eql 65 (.slice none 0 c) (.slice none 0 0)).run Tryz.prog W = .ok (.bool true) W := fun _ => by kernel_rfl
    go_enter Tryz.func121, Tryz.ntmps121
    go_wp2_with fail
    go_ret
    exact ⟨_, rfl, by rw [HX.out]; exact ⟨rfl, Or.inl ⟨rfl, rfl⟩⟩, Below.refl _ _⟩
  · clear h
    have e22 : ∀ W, (binOp .eql 65 (.slice (some ad) n c) (.slice none 0 0)).run Tryz.prog W = .ok (.bool false) W := fun _ => by kernel_rfl
    go_enter Tryz.func121, Tryz.ntmps121
    go_wp2_with (at_builtin; refine wpList_append_own _ rfl _ _ 65 rfl w.heap.size 71 i0 (.agg #[.int .u8 0, .int .i64 0, .int .i64 0, .int .i64 0, .int .i64 0, .int .u8 0, .slice none 0 0, .int .i64 0, .int .i64 0, .int .i64 0]) 10 96 Tryz.underlying65 hi0 hz0 hz1 hz2 rfl (by decide) _ 0 [] rfl (World.ownsRow_made w #[] 0 (Nat.le_refl _) (by decide) rfl) ad n c xs rfl H.out.len (fun j u hu => ?_) H.out.one (by unfold maxLen; omega) (by omega) (by simp) ?_)
    · have := H.out.at_ ad rfl j u hu
      rw [World.cell?_alloc_lt _ _ _ (World.block_lt_of_cell? w _ this)]; exact this
    intro v' w1 hown hgrow _
    have HO := Lib.hid hown; have HG := Lib.hid hgrow
    clear hown hgrow
    go_wp2_with fail
    go_ret
    have ho : w1.ownsRow w.heap.size 71 10 v' n xs := by simpa using HO.out
    refine ⟨v', rfl, ho, ((Below.refl w.heap.size w).alloc (Nat.le_refl _) _).grown HG.out (by simp) (fun q e => ?_)⟩
    have : w.heap.size = q := by simpa [Value.ownBlock] using e
    omega

theorem flat_len' {α : Type} (C : α → List Value) (z : Nat) (hz : ∀ x, (C x).length = z) (l : List α) : (l.flatMap C).length = l.length * z := by
  induction l with
  | nil => simp
  | cons a l ih => rw [List.flatMap_cons, List.length_append, ih, hz, List.length_cons, Nat.add_mul]; omega
/-- A slice of rows, by its cells. -/
theorem rows_cells {α : Type} (C : α → List Value) (z : Nat) (hp : 0 < z) (hz : ∀ x, (C x).length = z) {R : World → Nat → Nat → α → Prop} {w : World} {A : Option Addr} {n c : Nat} {l : List α} (h : RowsV z R w (.slice A n c) l) (hn : n = l.length)
    (k : ∀ b o x, R w b o x → ∀ q, q < z → w.cell? ⟨b, o + q, none⟩ = (C x)[q]?) (one : ∀ x ∈ l, ∀ u ∈ C x, u.oneCell' = true) : CellsV w A n z (l.flatMap C) := by
  obtain ⟨A2, c2, e2, _, h2⟩ := h
  injection e2 with e3 _ _
  subst e3
  refine ⟨by rw [flat_len' C z hz, hn], fun e => ?_, fun ad e j u hu => ?_, fun u hu => ?_⟩
  · rcases h2 with h2 | ⟨b2, o2, e4, _⟩
    · rw [hn, h2]; rfl
    · rw [e] at e4; cases e4
  · have hj := (List.getElem?_eq_some_iff.1 hu).1
    rw [flat_len' C z hz] at hj
    rcases h2 with h2 | ⟨b2, o2, e4, h2⟩
    · rw [h2] at hj; simp at hj
    · rw [e] at e4; injection e4 with e4; subst e4
      obtain ⟨i, q, hq, rfl⟩ : ∃ i q, q < z ∧ j = i * z + q := ⟨j / z, j % z, Nat.mod_lt _ hp, by rw [Nat.mul_comm]; exact (Nat.div_add_mod _ _).symm⟩
      have hi : i < l.length := by
        apply Nat.lt_of_mul_lt_mul_right (a := z)
        omega
      have hx := List.getElem?_eq_getElem hi
      rw [rows_atM C z hz l i q _ hx hq] at hu
      have hadd : (⟨b2, o2, none⟩ : Addr).add (i * z + q) = ⟨b2, o2 + (i * z + q), none⟩ := by unfold Addr.add; split <;> simp_all
      rw [hadd, ← Nat.add_assoc, k b2 _ _ (h2 i _ hx) q hq, hu]
  · obtain ⟨x, hx, hu⟩ := List.mem_flatMap.1 hu
    exact one x hx u hu
/-- An own row of cells, as rows. -/
theorem rows_ownM {α : Type} (C : α → List Value) (z : Nat) (hz : ∀ x, (C x).length = z) {R : World → Nat → Nat → α → Prop} {w : World} {base e n : Nat} {v : Value} {l : List α} (h : w.ownsRow base e z v n (l.flatMap C)) (hn : n = l.length)
    (k : ∀ b o x, x ∈ l → (∀ q, q < z → w.cell? ⟨b, o + q, none⟩ = (C x)[q]?) → R w b o x) : RowsV z R w v l := by
  subst hn
  rcases h.2 with ⟨rfl, h0⟩ | ⟨g, cap, cur, rfl, _, hg, hnc, _, hs, ht⟩
  · exact ⟨none, 0, by rw [h0], by omega, Or.inl (List.eq_nil_of_length_eq_zero h0)⟩
  · refine ⟨_, cap, rfl, hnc, Or.inr ⟨g, 0, rfl, fun i x hi => k _ _ _ (List.mem_of_getElem? hi) fun q hq => ?_⟩⟩
    have hil := (List.getElem?_eq_some_iff.1 hi).1
    have := h.cellAt (i * z + q) (by
      have h1 : (i + 1) * z ≤ l.length * z := Nat.mul_le_mul_right _ hil
      rw [Nat.add_mul] at h1; omega)
    rw [Nat.zero_add, this]
    exact rows_atM C z hz l i q x hi hq
end Go.Proofs.YtgdibfnpkcdiiaaGreatDoor

/- A program is cloned (meaning's clone). By an AI agent. -/
namespace Go.Proofs.YtgdibfnpkcdiiaaGreatDoor
open Go.RowKit

def insCM (y : InV) : List Value := [.int .u8 y.1.op, .int .i64 y.1.v, .int .i64 y.1.a, .int .i64 y.1.b, .int .i64 y.1.n, .int .u8 y.1.bin, y.2, .int .i64 y.1.f, .int .i64 y.1.arr, .int .i64 y.1.to]
def fnCM (x : FnG) : List Value := [.string ⟨x.fn.name.toArray⟩, .int .i64 x.fn.params, .int .i64 x.fn.vars, x.cv]
def intCM (k : Int) : List Value := [.int .i64 k]
structure ArgOwn (w : World) (B : Nat) (y : InV) : Prop where
  row : w.ownsRow B 3 1 y.2 y.1.args.length (y.1.args.flatMap intCM)
structure CodeOwnM (w : World) (B : Nat) (x : FnG) : Prop where
  row : w.ownsRow B 71 10 x.cv x.l.length (x.l.flatMap insCM)
  eq : x.l.map (·.1) = x.fn.code
  args : ∀ y ∈ x.l, ArgOwn w B y
theorem own_lowerM {w : World} {base base' e size n : Nat} {v : Value} {xs : List Value} (h : w.ownsRow base e size v n xs) (hb : base' ≤ base) : w.ownsRow base' e size v n xs := by
  refine ⟨h.1, ?_⟩
  rcases h.2 with hn | ⟨g, cap, cur, hv, hg, r⟩
  · exact Or.inl hn
  · exact Or.inr ⟨g, cap, cur, hv, Nat.le_trans hb hg, r⟩
/-- The block of a row has the row's type. -/
theorem own_type {w : World} {base e size n : Nat} {v : Value} {xs : List Value} (h : w.ownsRow base e size v n xs) {k : Nat} (hk : v.ownBlock = some k) : ∃ cur, w.heap[k]? = some (.cells cur e (0, 0)) := by
  rcases h.2 with ⟨rfl, _⟩ | ⟨g, cap, cur, rfl, _, hg, _⟩
  · cases hk
  · simp only [Value.ownBlock, Option.some.injEq] at hk; subst hk; exact ⟨cur, hg⟩
/-- A store into a block of another type. -/
theorem own_setT {w : World} {base e size n : Nat} {v : Value} {xs : List Value} (h : w.ownsRow base e size v n xs) {b : Nat} {cs : Array Value} {t : Nat} {fz : Nat × Nat} (hb : w.heap[b]? = some (.cells cs t fz)) (ht : t ≠ e) (j : Nat) (u : Value) : (w.setCell ⟨b, j, none⟩ u).ownsRow base e size v n xs :=
  own_keep h fun k hk => Below.heap_setCell _ _ _ _ (fun c => by
    obtain ⟨cur, hc⟩ := own_type h hk
    have c : k = b := c
    subst c
    rw [hb] at hc; injection hc with hc; injection hc with _ hc
    exact ht hc)
theorem ArgOwn.below {w w' : World} {B : Nat} {y : InV} (h : ArgOwn w B y) (hb : Below w.heap.size w w') : ArgOwn w' B y := ⟨ownM h.row hb⟩
theorem CodeOwnM.below {w w' : World} {B : Nat} {x : FnG} (h : CodeOwnM w B x) (hb : Below w.heap.size w w') : CodeOwnM w' B x := ⟨ownM h.row hb, h.eq, fun y hy => (h.args y hy).below hb⟩
theorem CodeOwnM.set {w : World} {B : Nat} {x : FnG} (h : CodeOwnM w B x) {b : Nat} {cs : Array Value} {t : Nat} {fz : Nat × Nat} (hb : w.heap[b]? = some (.cells cs t fz)) (h1 : t ≠ 71) (h2 : t ≠ 3) (j : Nat) (u : Value) : CodeOwnM (w.setCell ⟨b, j, none⟩ u) B x :=
  ⟨own_setT h.row hb h1 j u, h.eq, fun y hy => ⟨own_setT (h.args y hy).row hb h2 j u⟩⟩
theorem ints_ownM {w : World} {B n : Nat} {v : Value} {l : List Int} (h : w.ownsRow B 3 1 v n (l.flatMap intCM)) (hn : n = l.length) : IntsV w v l :=
  rows_ownM intCM 1 (fun _ => rfl) h hn fun b o x _ hq => hq 0 (by omega)
/-- All own rows: a program. -/
theorem pr_own {w : World} {B : Nat} {p : PrW} {av fv : Value} {l : List FnG} (ha : w.ownsRow B 3 1 av p.arrays.length (p.arrays.flatMap intCM)) (hf : w.ownsRow B 67 4 fv l.length (l.flatMap fnCM)) (hc : ∀ x ∈ l, CodeOwnM w B x) (he : l.map (·.fn) = p.fns) :
    ∀ w' : World, (∀ k, B ≤ k → k < w.heap.size → w'.heap[k]? = w.heap[k]?) → PrR w' ⟨p, av, fv, l⟩ := fun w' hk => by
  have keep : ∀ {e size n : Nat} {v : Value} {xs : List Value}, w.ownsRow B e size v n xs → w'.ownsRow B e size v n xs := fun h => own_keep h fun k e => hk k (h.lt k e).1 (h.lt k e).2
  refine ⟨ints_ownM (keep ha) rfl, rows_ownM fnCM 4 (fun _ => rfl) (keep hf) rfl fun b o x hx hq => ?_, he⟩
  have hx := hc x hx
  refine ⟨hq 0 (by omega), hq 1 (by omega), hq 2 (by omega), hq 3 (by omega), rows_ownM insCM 10 (fun _ => rfl) (keep hx.row) rfl fun b o y hy hq => ?_, hx.eq⟩
  exact ⟨hq 0 (by omega), hq 1 (by omega), hq 2 (by omega), hq 3 (by omega), hq 4 (by omega), hq 5 (by omega), hq 6 (by omega), hq 7 (by omega), hq 8 (by omega), hq 9 (by omega), ints_ownM (keep (hx.args y hy).row) rfl⟩
theorem ints_cells {w : World} {A : Option Addr} {n c : Nat} {l : List Int} (h : IntsV w (.slice A n c) l) (hn : n = l.length) : CellsV w A n 1 (l.flatMap intCM) :=
  rows_cells intCM 1 (by decide) (fun _ => rfl) h hn (fun b o x hx q hq => match q, hq with | 0, _ => hx) (fun x _ u hu => by simp [intCM] at hu; subst hu; rfl)
theorem slice_one {A : Option Addr} {n c : Nat} : (Value.slice A n c).oneCell' = true := rfl
theorem ins_cells {w : World} {A : Option Addr} {n c : Nat} {l : List InV} (h : InsV w (.slice A n c) l) (hn : n = l.length) : CellsV w A n 10 (l.flatMap insCM) :=
  rows_cells insCM 10 (by decide) (fun _ => rfl) h hn (fun b o x hx q hq => by
    match q, hq with
    | 0, _ => exact hx.c0
    | 1, _ => exact hx.c1
    | 2, _ => exact hx.c2
    | 3, _ => exact hx.c3
    | 4, _ => exact hx.c4
    | 5, _ => exact hx.c5
    | 6, _ => exact hx.c6
    | 7, _ => exact hx.c7
    | 8, _ => exact hx.c8
    | 9, _ => exact hx.c9) (fun x hx u hu => by
    have ha : ∃ A c, x.2 = .slice A x.1.args.length c := by
      obtain ⟨A2, c2, _, _, h2⟩ := h
      obtain ⟨i, hi⟩ := List.mem_iff_getElem?.1 hx
      rcases h2 with h2 | ⟨b, o, _, h2⟩
      · rw [h2] at hi; simp at hi
      · obtain ⟨A3, c3, e3, _⟩ := (h2 i x hi).args
        exact ⟨A3, c3, e3⟩
    obtain ⟨A3, c3, e3⟩ := ha
    simp only [insCM, e3, List.mem_cons, List.not_mem_nil, or_false] at hu
    rcases hu with rfl | rfl | rfl | rfl | rfl | rfl | rfl | rfl | rfl | rfl <;> rfl)
theorem fns_cells {w : World} {A : Option Addr} {n c : Nat} {l : List FnG} (h : FnsV w (.slice A n c) l) (hn : n = l.length) : CellsV w A n 4 (l.flatMap fnCM) :=
  rows_cells fnCM 4 (by decide) (fun _ => rfl) h hn (fun b o x hx q hq => by
    match q, hq with
    | 0, _ => exact hx.c0
    | 1, _ => exact hx.c1
    | 2, _ => exact hx.c2
    | 3, _ => exact hx.c3) (fun x hx u hu => by
    have ha : ∃ A n c, x.cv = .slice A n c := by
      obtain ⟨A2, c2, _, _, h2⟩ := h
      obtain ⟨i, hi⟩ := List.mem_iff_getElem?.1 hx
      rcases h2 with h2 | ⟨b, o, _, h2⟩
      · rw [h2] at hi; simp at hi
      · obtain ⟨A3, c3, e3, _⟩ := (h2 i x hi).code
        exact ⟨A3, _, c3, e3⟩
    obtain ⟨A3, n3, c3, e3⟩ := ha
    simp only [fnCM, e3, List.mem_cons, List.not_mem_nil, or_false] at hu
    rcases hu with rfl | rfl | rfl | rfl <;> rfl)
end Go.Proofs.YtgdibfnpkcdiiaaGreatDoor

/- A program is cloned: the walk. By an AI agent. -/
namespace Go.Proofs.YtgdibfnpkcdiiaaGreatDoor
open Go.RowKit

theorem join3M {α β γ : Type} {H G : α → β → γ → Prop} {goal : Prop} (h1 : (∀ a b c, H a b c → G a b c) → goal) (h2 : ∀ a b c, H a b c → G a b c) : goal := h1 h2
theorem flat_at {α : Type} (C : α → List Value) (z : Nat) (hz : ∀ x, (C x).length = z) {w : World} {base e n g cap : Nat} {l : List α} (h : w.ownsRow base e z (.slice (some ⟨g, 0, none⟩) n cap) n (l.flatMap C)) {i q : Nat} {x : α} (hx : l[i]? = some x) (hq : q < z) : w.cell? ⟨g, i * z + q, none⟩ = (C x)[q]? := by
  have h1 := h.1
  rw [flat_len' C z hz] at h1
  have hi := (List.getElem?_eq_some_iff.1 hx).1
  have : (i + 1) * z ≤ l.length * z := Nat.mul_le_mul_right _ hi
  rw [Nat.add_mul] at this
  rw [h.cellAt (i * z + q) (by omega)]
  exact rows_atM C z hz l i q x hx hq
structure PrSz (p : PrW) : Prop where
  arrays : p.arrays.length ≤ 1000
  fns : p.fns.length ≤ 1000
  pos : 0 < p.fns.length
  code : ∀ f ∈ p.fns, 0 < f.code.length ∧ f.code.length ≤ 10000
  args : ∀ f ∈ p.fns, ∀ x ∈ f.code, x.args.length ≤ 1000
/-- The clone so far: X holds it; its rows. -/
structure Clo (w0 : World) (p : PrW) (X : Nat) (av fv : Value) (l : List FnG) (i : Nat) (w : World) (li : List FnG) : Prop where
  blk : Blk w X 25 #[av, fv, .int .i64 p.main]
  out : Blk w (X + 1) 25 #[.slice none 0 0, .slice none 0 0, .int .i64 0]
  arr : w.ownsRow X 3 1 av p.arrays.length (p.arrays.flatMap intCM)
  row : w.ownsRow X 67 4 fv l.length (li.flatMap fnCM)
  fns : li.map (·.fn) = l.map (·.fn)
  done : ∀ j x, j < i → li[j]? = some x → CodeOwnM w X x
  todo : ∀ j, i ≤ j → li[j]? = l[j]?
  below : Below X w0 w
set_option maxRecDepth 100000 in
set_option maxHeartbeats 16000000 in
theorem pclone_any (g : PrG) (w : World) (hg : PrR w g) (sz : PrSz g.p) :
    Calls Tryz.prog 67 #[prV g] w fun e w' => ∃ g', e = .returned (prV g') ∧ g'.p = g.p ∧ Below w.heap.size w w' ∧ ∀ w'' : World, (∀ k, w.heap.size ≤ k → k < w'.heap.size → w''.heap[k]? = w'.heap[k]?) → PrR w'' g' := by
  obtain ⟨p, av, fv, l⟩ := g
  dsimp only at sz
  have hge := hg.eq
  have harr := hg.arrays
  have hfns := hg.fns
  obtain ⟨⟨A, ca, hav, _, _⟩, ⟨F, cf, hfv, _, _⟩, _⟩ := hg
  dsimp only at hav hfv hge harr hfns
  rw [hav] at harr; rw [hfv] at hfns
  subst hav; subst hfv
  obtain ⟨na, hna⟩ : ∃ n, n = p.arrays.length := ⟨_, rfl⟩
  obtain ⟨nl, hnl⟩ : ∃ n, n = l.length := ⟨_, rfl⟩
  have hfl : p.fns.length = nl := by rw [← hge, List.length_map, hnl]
  unfold prV
  dsimp only
  rw [← hna, ← hnl]
  rw [← hna] at harr; rw [← hnl] at hfns
  have HGE := Lib.hid hge; have HARR := Lib.hid harr; have HFNS := Lib.hid hfns; have HNA := Lib.hid hna; have HNL := Lib.hid hnl; have HFL := Lib.hid hfl; have SZ := Lib.hid sz
  clear hge harr hfns hna hnl hfl sz
  go_enter Tryz.func67, Tryz.ntmps67
  go_upto_region 1 with fail
  obtain ⟨W1, hW1⟩ : ∃ W1, W1 = (w.alloc (.cells #[.slice A na ca, .slice F nl cf, .int .i64 p.main] 25)).alloc (.cells #[.slice none 0 0, .slice none 0 0, .int .i64 0] 25) := ⟨_, rfl⟩
  obtain ⟨X, hX⟩ : ∃ X, X = w.heap.size := ⟨_, rfl⟩
  have HB1 := Lib.hid (show Below X w W1 by rw [hW1, hX]; exact ((Below.refl _ _).alloc (Nat.le_refl _) _).alloc (by simp) _)
  have BX1 := Lib.hid (show Blk W1 X 25 #[.slice A na ca, .slice F nl cf, .int .i64 p.main] by rw [hW1, hX]; exact (Blk.new w 25 _).alloc _)
  have BY1 := Lib.hid (show Blk W1 (X + 1) 25 #[.slice none 0 0, .slice none 0 0, .int .i64 0] by
    rw [hW1, hX]
    have := Blk.new (w.alloc (.cells #[.slice A na ca, .slice F nl cf, .int .i64 p.main] 25)) 25 #[.slice none 0 0, .slice none 0 0, .int .i64 0]
    simpa only [World.size_alloc] using this)
  rw [← hW1, ← hX]
  have HX := Lib.hid hX
  have HBW := Lib.hid (show ∀ U, Below W1.heap.size W1 U → Below w.heap.size w U from fun U hU => by rw [← hX]; exact HB1.out.trans (hU.mono (by rw [hX]; exact HB1.out.size)))
  have C0 := Lib.hid (BX1.out.cell 0); have C1 := Lib.hid (BX1.out.cell 1)
  clear hW1 hX
  refine wp_region_float [some (none, .pointer (some ⟨X, 0, none⟩)), some (none, .slice A na ca), none, some (none, .pointer (some ⟨X, 1, none⟩)), some (none, .slice F nl cf), none, none, none, none, none] (fun W => Below W1.heap.size W1 W) 6 mixedT (fun _ a a2 _ hd h => by cases a; cases a2; cases hd; exact h) (by kernel_rfl) (fun _ _ h => h) ?_
  intro FF AA Wd hA hF hWh hWd
  have hL : HasL FF [(1, .pointer (some ⟨X, 0, none⟩)), (6, .pointer (some ⟨X, 0, none⟩)), (7, .slice A na ca), (9, .pointer (some ⟨X, 1, none⟩)), (10, .slice F nl cf)] := by unfold HasL; rw [hF, hA]; kernel_rfl
  have HF := Lib.hid hF; clear hF; have HA := Lib.hid hA; clear hA
  refine ⟨?_, ?_⟩
  · intro Z hZ
    repeat clear ‹∀ (a : Act) (w : World), Code.wp Tryz.prog _ _ a w → _›
    have gff := gd_ff
    have gtt := gd_tt
    exact
    ResF.cons (FlRes.val (by have a1 := hL.at 0 rfl; go_simp)) (
    ResF.cons (FlRes.val (by have a6 := hL.at 1 rfl; have kk := get_b hZ C0.out; go_simp)) (
    ResF.pass (
    ResF.cons (FlRes.val (by have a1 := hL.at 0 rfl; go_simp)) (
    ResF.cons (FlRes.val (by have a9 := hL.at 3 rfl; have kk := get_b hZ C1.out; go_simp)) (
    ResF.pass (
    ResF.pass (
    ResF.pass (
    ResF.pass (
    ResF.pass (
    ResF.nil))))))))))
  clear hL
  obtain ⟨gf, hFF⟩ : ∃ gf : Nat → Value, FF = putL [(6, gf 6), (7, .slice A na ca), (9, gf 9), (10, .slice F nl cf)] AA := ⟨fun k => FF.tmps.getD k undef, by rw [HF.out, HA.out]; kernel_rfl⟩
  clear HF
  rw [HA.out] at hFF; clear HA
  simp only [putL, Act.put, List.setIfInBounds_toArray, List.set_cons_zero, List.set_cons_succ] at hFF
  subst hFF
  refine wpAnyS_one 2 rfl (by kernel_rfl) (fun KK hK => ?_)
  go_simp
  refine (clone87 A na ca _ Wd (ints_cells (HARR.out.below (HBW.out Wd hWd)) HNA.out) (by have := SZ.out.arrays; have := HNA.out; omega)).mono ?_
  rintro e w2 ⟨va, rfl, ho2, hb2⟩
  obtain ⟨VA, cva, hva⟩ := own_formM ho2
  subst hva
  have hbw2 := hWd.trans (hb2.mono hWd.size)
  have OA := Lib.hid (own_lowerM (base' := X) ho2 (by have := HBW.out Wd hWd; rw [HX.out]; exact this.size))
  go_simp
  refine hK.out _ _ (Or.inl hbw2) ?_
  clear hK ho2 hb2 hWh hWd
  have HBW2 := Lib.hid hbw2
  clear hbw2
  apply join3M (H := fun (VF : Option Addr) (cvf : Nat) (w3 : World) => Below W1.heap.size W1 w3 ∧ w3.ownsRow X 67 4 (.slice VF nl cvf) nl (l.flatMap fnCM) ∧ w3.ownsRow X 3 1 (.slice VA na cva) na (p.arrays.flatMap intCM))
  · intro KEY
    have KEYH := Lib.hid KEY; clear KEY
    have CL := Lib.hid (fun (U : World) (hU : Below w2.heap.size w2 U) => clone120 F nl cf _ U (fns_cells (HFNS.out.below ((HBW.out w2 HBW2.out).trans (hU.mono (HBW.out w2 HBW2.out).size))) HNL.out) (by have := SZ.out.fns; have := HFL.out; omega))
    refine wpAnyS_two 5 6 rfl rfl (by kernel_rfl) (fun KK hK => ?_) (fun KK hK => ?_)
    · go_simp
      refine (CL.out w2 (Below.refl _ _)).mono ?_
      rintro e w3 ⟨vf, rfl, ho3, hb3⟩
      obtain ⟨VF, cvf, hvf⟩ := own_formM ho3
      subst hvf
      have hbw3 := HBW2.out.trans (hb3.mono HBW2.out.size)
      go_simp
      refine hK.out _ _ (Or.inl hbw3) ?_
      clear hK
      refine wpAnyS_one 6 rfl (by kernel_rfl) (fun KK hK => ?_)
      go_simp
      refine hK.out _ _ (Or.inl hbw3) ?_
      exact KEYH.out _ _ _ ⟨hbw3, own_lowerM ho3 (by rw [HX.out]; exact (HBW.out w2 HBW2.out).size), ownM OA.out hb3⟩
    · go_simp
      refine hK.out _ _ (Or.inl HBW2.out) ?_
      clear hK
      refine wpAnyS_one 5 rfl (by kernel_rfl) (fun KK hK => ?_)
      go_simp
      refine (CL.out w2 (Below.refl _ _)).mono ?_
      rintro e w3 ⟨vf, rfl, ho3, hb3⟩
      obtain ⟨VF, cvf, hvf⟩ := own_formM ho3
      subst hvf
      have hbw3 := HBW2.out.trans (hb3.mono HBW2.out.size)
      go_simp
      refine hK.out _ _ (Or.inl hbw3) ?_
      exact KEYH.out _ _ _ ⟨hbw3, own_lowerM ho3 (by rw [HX.out]; exact (HBW.out w2 HBW2.out).size), ownM OA.out hb3⟩
  rintro VF cvf w3 ⟨hbw3, hf3, ha3⟩
  have hnlp : 0 < nl := by have := SZ.out.pos; rw [HFL.out] at this; exact this
  obtain ⟨g, capg, hvg, hgX, _⟩ := hf3.form hnlp
  injection hvg with e1 _ e2
  subst e1; subst e2
  have hbx3 := BX1.out.below hbw3
  have c0 := hbx3.cell 0; have c1 := hbx3.cell 1; have f0 := hbx3.free 0; have f1 := hbx3.free 1; have lx := hbx3.lt
  have HBX3 := Lib.hid hbx3; have HBY3 := Lib.hid (BY1.out.below hbw3); have HF3 := Lib.hid hf3; have HA3 := Lib.hid ha3; have HBW3 := Lib.hid (HBW.out w3 hbw3)
  clear hbx3 hf3 ha3 hbw3 OA HBW2
  refine wpAnyS_one 7 rfl (by kernel_rfl) (fun KK hK => ?_)
  go_simp
  refine hK.out _ _ (Or.inr (by kernel_rfl)) ?_
  clear hK
  refine wpAnyS_one 8 rfl (by kernel_rfl) (fun KK hK => ?_)
  go_simp
  refine hK.out _ _ (Or.inr (by kernel_rfl)) ?_
  clear hK
  refine wpAnyS_one 9 rfl (by kernel_rfl) (fun KK hK => ?_)
  go_simp
  refine hK.out _ _ (Or.inr (by kernel_rfl)) ?_
  clear hK
  refine wpAnyS_end (by kernel_rfl) ?_
  clear c0 c1 f0 f1 lx
  have q1 := HBX3.out.put 0 (.slice VA na cva)
  have q2 := q1.put 1 (.slice (some ⟨g, 0, none⟩) nl cvf)
  have CL0 : Hid (Clo w p X (.slice VA na cva) (.slice (some ⟨g, 0, none⟩) nl cvf) l 0 ((w3.setCell ⟨X, 0, none⟩ (.slice VA na cva)).setCell ⟨X, 1, none⟩ (.slice (some ⟨g, 0, none⟩) nl cvf)) l) := Lib.hid
    ⟨q2, (HBY3.out.far (by omega) _ _).far (by omega) _ _, by rw [← HNA.out]; exact own_setT (own_setT HA3.out HBX3.out (by decide) _ _) q1 (by decide) _ _, by rw [← HNL.out]; exact own_setT (own_setT HF3.out HBX3.out (by decide) _ _) q1 (by decide) _ _, rfl, fun j x hj => absurd hj (Nat.not_lt_zero _), fun _ _ => rfl, by
      have := HBW3.out
      rw [← HX.out] at this
      exact (this.setCell (p := ⟨X, 0, none⟩) (Nat.le_refl _) _).setCell (p := ⟨X, 1, none⟩) (Nat.le_refl _) _⟩
  clear q1 q2 HBX3 HBY3 HF3 HA3 HBW3
  obtain ⟨W4, hW4⟩ : ∃ W, W = (w3.setCell ⟨X, 0, none⟩ (.slice VA na cva)).setCell ⟨X, 1, none⟩ (.slice (some ⟨g, 0, none⟩) nl cvf) := ⟨_, rfl⟩
  rw [← hW4] at CL0 ⊢
  clear hW4
  have c1 := CL0.out.blk.cell 1
  have lx := CL0.out.blk.lt
  go_wp2_with fail
  clear c1 lx
  go_loopg [17] nl (fun gk v wr => ∃ (i : Nat) (li : List FnG), i ≤ nl ∧ nl - i ≤ gk ∧ v = .int .i64 i ∧ Hid (Clo w p X (.slice VA na cva) (.slice (some ⟨g, 0, none⟩) nl cvf) l i wr li))
  case atStart => exact ⟨0, l, Nat.zero_le _, Nat.le_refl _, rfl, CL0⟩
  case round =>
    obtain ⟨i, li, hi, hgk, rfl, HC⟩ := hrel
    have b0 := HC.out.blk.cell 0; have b1 := HC.out.blk.cell 1; have b2 := HC.out.blk.cell 2
    have lb := HC.out.blk.lt
    by_cases hlt : i < nl
    case neg =>
      have q : decide ((i : Int) < (nl : Int)) = false := decide_eq_false (by omega)
      have HIN := Lib.hid (show i = nl by omega)
      have d0 := HC.out.out.cell 0; have d1 := HC.out.out.cell 1; have d2 := HC.out.out.cell 2
      have f0 := HC.out.out.free 0; have f1 := HC.out.out.free 1; have f2 := HC.out.out.free 2
      have lo := HC.out.out.lt
      go_wp2_with fail
      have hbkF : Blk (((wr.setCell ⟨X + 1, 0, none⟩ (.slice VA na cva)).setCell ⟨X + 1, 1, none⟩ (.slice (some ⟨g, 0, none⟩) nl cvf)).setCell ⟨X + 1, 2, none⟩ (.int .i64 p.main)) (X + 1) 25 #[.slice VA na cva, .slice (some ⟨g, 0, none⟩) nl cvf, .int .i64 p.main] := ((HC.out.out.put 0 _).put 1 _).put 2 _
      have o1 := HC.out.out
      have o2 := o1.put 0 (.slice VA na cva)
      have o3 := o2.put 1 (.slice (some ⟨g, 0, none⟩) nl cvf)
      refine bodyPost_ret (results_cell_row rfl _ _ (X + 1) 25 #[.slice VA na cva, .slice (some ⟨g, 0, none⟩) nl cvf, .int .i64 p.main] (0, 0) _ rfl hbkF Tryz.underlying25 rfl (by kernel_rfl)) rfl ?_
      have hll : li.length = nl := by have := congrArg List.length HC.out.fns; rw [List.length_map, List.length_map] at this; rw [this, HNL.out]
      have bl : Below X w (((wr.setCell ⟨X + 1, 0, none⟩ (.slice VA na cva)).setCell ⟨X + 1, 1, none⟩ (.slice (some ⟨g, 0, none⟩) nl cvf)).setCell ⟨X + 1, 2, none⟩ (.int .i64 p.main)) := ((HC.out.below.setCell (p := ⟨X + 1, 0, none⟩) (Nat.le_succ _) _).setCell (p := ⟨X + 1, 1, none⟩) (Nat.le_succ _) _).setCell (p := ⟨X + 1, 2, none⟩) (Nat.le_succ _) _
      refine ⟨⟨p, .slice VA na cva, .slice (some ⟨g, 0, none⟩) nl cvf, li⟩, by first | rfl | rw [prV, hll], rfl, bl.mono (Nat.le_of_eq HX.out.symm), fun w2 hk2 => ?_⟩
      have ha := HC.out.arr
      have hr := HC.out.row
      rw [← HNL.out] at hr
      refine pr_own (B := X) ?_ ?_ (fun x hx => ?_) (by rw [HC.out.fns]; exact HGE.out) w2 (fun k h1 h2 => hk2 k (Nat.le_trans (Nat.le_of_eq HX.out.symm) h1) h2)
      · exact own_setT (own_setT (own_setT ha o1 (by decide) _ _) o2 (by decide) _ _) o3 (by decide) _ _
      · rw [hll]; exact own_setT (own_setT (own_setT hr o1 (by decide) _ _) o2 (by decide) _ _) o3 (by decide) _ _
      · obtain ⟨j, hj⟩ := List.mem_iff_getElem?.1 hx
        have hjl := (List.getElem?_eq_some_iff.1 hj).1
        exact (((HC.out.done j x (by rw [HIN.out, ← hll]; exact hjl) hj).set o1 (by decide) (by decide) _ _).set o2 (by decide) (by decide) _ _).set o3 (by decide) (by decide) _ _
    case pos =>
      have q : decide ((i : Int) < (nl : Int)) = true := decide_eq_true (by omega)
      obtain ⟨ko, rfl⟩ : ∃ k, gk = k + 1 := ⟨gk - 1, by omega⟩
      obtain ⟨x, hx⟩ : ∃ x, l[i]? = some x := ⟨_, List.getElem?_eq_getElem (by rw [← HNL.out]; exact hlt)⟩
      have hlx : li[i]? = some x := by rw [HC.out.todo i (Nat.le_refl _)]; exact hx
      have hfx : x.fn ∈ p.fns := by rw [← HGE.out]; exact List.mem_map.2 ⟨x, List.mem_of_getElem? hx, rfl⟩
      obtain ⟨C, cc, hcv, hcode, hxeq⟩ : ∃ C cc, x.cv = .slice C x.l.length cc ∧ InsV w (.slice C x.l.length cc) x.l ∧ x.l.map (·.1) = x.fn.code := by
        obtain ⟨A2, c2, e2, _, h2⟩ := HFNS.out
        rcases h2 with h2 | ⟨b2, o2, _, h2⟩
        · rw [h2] at hx; simp at hx
        · have h3 := (h2 i x hx).code
          obtain ⟨C, cc, e3, _⟩ := h3
          exact ⟨C, cc, e3, by rw [← e3]; exact (h2 i x hx).code, (h2 i x hx).eq⟩
      obtain ⟨nc, hnc⟩ : ∃ n, n = x.l.length := ⟨_, rfl⟩
      rw [← hnc] at hcv hcode
      have hncl : nc = x.fn.code.length := by rw [hnc, ← hxeq, List.length_map]
      have hszc := SZ.out.code x.fn hfx
      rw [← hncl] at hszc
      have hszp : 0 < nc := hszc.1
      have hszb : nc ≤ 10000 := hszc.2
      have kc : wr.cell? ⟨g, i * 4 + 3, none⟩ = some (.slice C nc cc) := by
        have hr := HC.out.row
        rw [← HNL.out] at hr
        rw [flat_at fnCM 4 (fun _ => rfl) hr hlx (by decide), ← hcv]; rfl
      have lg := cell_lt' kc
      have HCL := Lib.hid (clone121 C nc cc _ wr (ins_cells (InsV.below hcode (by rw [← HX.out]; exact HC.out.below)) hnc) (by omega))
      have hii : (i : Int) < (nl : Int) := by omega
      have HXL := Lib.hid hx; have HLX := Lib.hid hlx; have HNC := Lib.hid hnc; have HXE := Lib.hid hxeq; have HFX := Lib.hid hfx; have HII := Lib.hid hlt; have HCODE := Lib.hid hcode
      clear hx hlx hfx hcv hcode hxeq hnc hncl hszc hlt
      go_wp2_with fail
      refine HCL.out.mono ?_
      rintro e w5 ⟨vc, rfl, hoc, hb5⟩
      obtain ⟨c, ccap, hvc, hcge, hclt⟩ := hoc.form hszp
      subst hvc
      obtain ⟨BO, hBO⟩ : ∃ b, b = wr.heap.size := ⟨_, rfl⟩
      rw [← hBO] at hoc hcge
      have HOC := Lib.hid hoc; have HCGE := Lib.hid hcge
      have hXBO : X + 1 < BO := by rw [hBO]; exact HC.out.out.lt
      have HXBO := Lib.hid hXBO
      have HBW := Lib.hid (show ∀ U : World, Below BO w5 U → Below X w U from fun U hU => (HC.out.below.trans (hb5.mono (by rw [← hBO]; omega))).trans (hU.mono (by omega)))
      have HCB := Lib.hid (show ∀ U : World, Below BO w5 U → Clo w p X (.slice VA na cva) (.slice (some ⟨g, 0, none⟩) nl cvf) l i U li from fun U hU => by
        have hu : Below wr.heap.size wr U := hb5.trans (by rw [← hBO]; exact hU)
        have hc := HC.out
        exact ⟨hc.blk.below hu, hc.out.below hu, ownM hc.arr hu, ownM hc.row hu, hc.fns, fun j z hj hz => (hc.done j z hj hz).below hu, hc.todo, hc.below.trans (hu.mono (by rw [← hBO]; omega))⟩)
      have HBS := Lib.hid (show BO ≤ w5.heap.size by rw [hBO]; exact hb5.size)
      have HI1 := Lib.hid hi; have HGK1 := Lib.hid hgk
      clear hoc hcge hclt hb5 b0 b1 b2 lb kc lg hBO HCL HC hXBO q hii
      go_wp2_with fail
      go_loopg [29] nc (fun gk v wi => ∃ (k : Nat) (yi : List InV), k ≤ nc ∧ nc - k ≤ gk ∧ v = .int .i64 k ∧ Hid (Below BO w5 wi) ∧ Hid (wi.ownsRow BO 71 10 (.slice (some ⟨c, 0, none⟩) nc ccap) nc (yi.flatMap insCM)) ∧ Hid (yi.map (·.1) = x.l.map (·.1)) ∧ Hid (∀ j y, j < k → yi[j]? = some y → ArgOwn wi BO y) ∧ Hid (∀ j, k ≤ j → yi[j]? = x.l[j]?))
      case atStart => exact ⟨0, x.l, Nat.zero_le _, Nat.le_refl _, rfl, Lib.hid (Below.refl _ _), HOC, Lib.hid rfl, Lib.hid (fun j y hj => absurd hj (Nat.not_lt_zero _)), Lib.hid (fun _ _ => rfl)⟩
      case round =>
        obtain ⟨k, yi, hk, hgk2, rfl, HB, HR, HM, HD, HT⟩ := hrel
        have hc2 := HCB.out _ HB.out
        have hyl : yi.length = nc := by have := congrArg List.length HM.out; rw [List.length_map, List.length_map] at this; rw [this, HNC.out]
        by_cases hlt2 : k < nc
        case neg =>
          have q2 : decide ((k : Int) < (nc : Int)) = false := decide_eq_false (by omega)
          have hkn : k = nc := by omega
          have x1 := hc2.blk.cell 1
          have lb := hc2.blk.lt
          have hr := hc2.row
          rw [← HNL.out] at hr
          have k3 := flat_at fnCM 4 (fun _ => rfl) hr HLX.out (q := 3) (by decide)
          have f3 := hr.frozenAt (i * 4 + 3)
          have lg := hr.lt g rfl
          have lg := lg.2
          have hx3 : (fnCM x)[3]? = some x.cv := rfl
          rw [hx3] at k3
          have hii : (i : Int) < (nl : Int) := by have := HII.out; omega
          have HY := Lib.hid (show CodeOwnM wr X ⟨x.fn, .slice (some ⟨c, 0, none⟩) nc ccap, yi⟩ from ⟨by show wr.ownsRow X 71 10 _ yi.length _; rw [hyl]; exact own_lowerM HR.out (by have := HXBO.out; omega), by rw [HM.out]; exact HXE.out, fun y hy => by
            obtain ⟨j, hj⟩ := List.mem_iff_getElem?.1 hy
            have hjl : j < yi.length := (List.getElem?_eq_some_iff.1 hj).1
            exact ⟨own_lowerM (HD.out j y (by omega) hj).row (by have := HXBO.out; omega)⟩⟩)
          have hrow := own_put (j := i * 4 + 3) hr (.slice (some ⟨c, 0, none⟩) nc ccap)
          rw [← flat_set fnCM 4 (fun _ => rfl) 3 (.slice (some ⟨c, 0, none⟩) nc ccap) (by decide) li i x ⟨x.fn, .slice (some ⟨c, 0, none⟩) nc ccap, yi⟩ HLX.out rfl] at hrow
          obtain ⟨curg, hgb⟩ := own_type hr (k := g) rfl
          have HNX := Lib.hid (show Clo w p X (.slice VA na cva) (.slice (some ⟨g, 0, none⟩) nl cvf) l (i + 1) (wr.setCell ⟨g, i * 4 + 3, none⟩ (.slice (some ⟨c, 0, none⟩) nc ccap)) (li.set i ⟨x.fn, .slice (some ⟨c, 0, none⟩) nc ccap, yi⟩) from by
            have hgx : X ≠ g := fun e => by
              have h1 := hc2.blk
              unfold Blk at h1
              rw [e, hgb] at h1; injection h1 with h1; injection h1 with _ h1; revert h1; decide
            have hgx1 : X + 1 ≠ g := fun e => by
              have h1 := hc2.out
              unfold Blk at h1
              rw [e, hgb] at h1; injection h1 with h1; injection h1 with _ h1; revert h1; decide
            refine ⟨hc2.blk.far hgx _ _, hc2.out.far hgx1 _ _, own_setT hc2.arr hgb (by decide) _ _, by rw [← HNL.out]; exact hrow, ?_, fun j z hj hz => ?_, fun j hj => ?_, hc2.below.setCell (p := ⟨g, i * 4 + 3, none⟩) ((hr.lt g rfl).1) _⟩
            · rw [← hc2.fns]
              apply List.ext_getElem?
              intro j
              rw [List.getElem?_map, List.getElem?_map, List.getElem?_set]
              split
              · rename_i e
                subst e
                rw [HLX.out]
                split
                · rfl
                · rename_i hn; exact absurd (List.getElem?_eq_some_iff.1 HLX.out).1 hn
              · rfl
            · by_cases hji : j = i
              · subst hji
                rw [List.getElem?_set_self (List.getElem?_eq_some_iff.1 HLX.out).1] at hz
                injection hz with hz; subst hz
                exact HY.out.set hgb (by decide) (by decide) _ _
              · rw [List.getElem?_set_ne (fun e => hji e.symm)] at hz
                exact (hc2.done j z (by omega) hz).set hgb (by decide) (by decide) _ _
            · rw [List.getElem?_set_ne (by omega)]
              exact hc2.todo j (by omega))
          have hib : i ≤ 1000 := by have := SZ.out.fns; have := HFL.out; have := HII.out; omega
          clear hr hrow hc2 hyl hx3 hgb hkn
          go_wp2_with fail
          go_roundg ko
          case measure => have := HGK1.out; have := HII.out; omega
          case rel => exact ⟨i + 1, _, by have := HII.out; omega, by have := HGK1.out; omega, by simp, HNX⟩
        case pos =>
          have q2 : decide ((k : Int) < (nc : Int)) = true := decide_eq_true (by omega)
          have hkk : (k : Int) < (nc : Int) := by omega
          obtain ⟨y, hy⟩ : ∃ y, x.l[k]? = some y := ⟨_, List.getElem?_eq_getElem (by rw [← HNC.out]; exact hlt2)⟩
          have hyy : yi[k]? = some y := by rw [HT.out k (Nat.le_refl _)]; exact hy
          have hay : ∃ Y cy, y.2 = .slice Y y.1.args.length cy ∧ IntsV w (.slice Y y.1.args.length cy) y.1.args := by
            obtain ⟨A2, c2, e2, _, h2⟩ := HCODE.out
            rcases h2 with h2 | ⟨b2, o2, _, h2⟩
            · rw [h2] at hy; simp at hy
            · obtain ⟨Y, cy, e3, _⟩ := (h2 k y hy).args
              exact ⟨Y, cy, e3, by rw [← e3]; exact (h2 k y hy).args⟩
          obtain ⟨Y, cy, hyv, hyi⟩ := hay
          obtain ⟨ny, hny⟩ : ∃ n, n = y.1.args.length := ⟨_, rfl⟩
          rw [← hny] at hyv hyi
          have hyin : y.1 ∈ x.fn.code := by rw [← HXE.out]; exact List.mem_map.2 ⟨y, List.mem_of_getElem? hy, rfl⟩
          have hnyb : ny ≤ 1000 := by rw [hny]; exact SZ.out.args x.fn HFX.out y.1 hyin
          have k6 : wr.cell? ⟨c, k * 10 + 6, none⟩ = some (.slice Y ny cy) := by
            rw [flat_at insCM 10 (fun _ => rfl) HR.out hyy (by decide), ← hyv]; rfl
          have lc := cell_lt' k6
          have HCA := Lib.hid (clone87 Y ny cy _ wr (ints_cells (hyi.below (by have := HBW.out _ HB.out; rw [HX.out] at this; exact this)) hny) (by omega))
          have HYY := Lib.hid hyy; have HNY := Lib.hid hny
          clear hy hyy hyv hyi hny hyin hc2 hyl
          go_wp2_with fail
          refine HCA.out.mono ?_
          rintro e w7 ⟨vy, rfl, hoy, hb7⟩
          obtain ⟨V, cv, hvv⟩ := own_formM hoy
          subst hvv
          have hR7 := ownM HR.out hb7
          have k6 := flat_at insCM 10 (fun _ => rfl) hR7 HYY.out (q := 6) (by decide)
          have hx6 : (insCM y)[6]? = some y.2 := rfl
          rw [hx6] at k6
          have f6 := hR7.frozenAt (k * 10 + 6)
          have lc7 := (hR7.lt c rfl).2
          obtain ⟨curc, hcb⟩ := own_type hR7 (k := c) rfl
          have hrow := own_put (j := k * 10 + 6) hR7 (.slice V ny cv)
          rw [← flat_set insCM 10 (fun _ => rfl) 6 (.slice V ny cv) (by decide) yi k y (y.1, .slice V ny cv) HYY.out rfl] at hrow
          have hwb := Nat.le_trans HBS.out HB.out.size
          have HBN := Lib.hid ((HB.out.trans (hb7.mono hwb)).setCell (p := ⟨c, k * 10 + 6, none⟩) HCGE.out (.slice V ny cv))
          have HRN := Lib.hid hrow
          have HMN := Lib.hid (show (yi.set k (y.1, .slice V ny cv)).map (·.1) = x.l.map (·.1) by
            rw [← HM.out]
            apply List.ext_getElem?
            intro j
            rw [List.getElem?_map, List.getElem?_map, List.getElem?_set]
            split
            · rename_i e
              subst e
              rw [HYY.out]
              split
              · rfl
              · rename_i hn; exact absurd (List.getElem?_eq_some_iff.1 HYY.out).1 hn
            · rfl)
          have HDN := Lib.hid (show ∀ j z, j < k + 1 → (yi.set k (y.1, .slice V ny cv))[j]? = some z → ArgOwn (w7.setCell ⟨c, k * 10 + 6, none⟩ (.slice V ny cv)) BO z from fun j z hj hz => by
            by_cases hjk : j = k
            · subst hjk
              rw [List.getElem?_set_self (List.getElem?_eq_some_iff.1 HYY.out).1] at hz
              injection hz with hz; subst hz
              exact ⟨own_setT (show w7.ownsRow BO 3 1 (.slice V ny cv) y.1.args.length (y.1.args.flatMap intCM) by rw [← HNY.out]; exact own_lowerM hoy hwb) hcb (by decide) _ _⟩
            · rw [List.getElem?_set_ne (fun e => hjk e.symm)] at hz
              exact ⟨own_setT ((HD.out j z (by omega) hz).below hb7).row hcb (by decide) _ _⟩)
          have HTN := Lib.hid (show ∀ j, k + 1 ≤ j → (yi.set k (y.1, .slice V ny cv))[j]? = x.l[j]? from fun j hj => by
            rw [List.getElem?_set_ne (by omega)]; exact HT.out j (by omega))
          clear hoy hb7 hR7 hx6 hcb hrow HCA hwb
          go_wp2_with fail
          cases gk with
          | zero => omega
          | succ gk =>
            go_roundg gk
            case measure => omega
            case rel => exact ⟨k + 1, _, by omega, by omega, by simp, HBN, HRN, HMN, HDN, HTN⟩
end Go.Proofs.YtgdibfnpkcdiiaaGreatDoor
