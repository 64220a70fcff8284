/- Joint text: MInsC, MInsD, MInsE, MInsF, MInsG, MAll. By an AI agent. -/
import Derived.Test.YtgdibfnpkcdiiaaGreatDoorMB
import Derived.Laws.CopyOwn
import Derived.Laws.MakeOwn
import Derived.Deep.LoopGhost
/- A number is read; a function is left. By an AI agent. -/
namespace Go.Proofs.YtgdibfnpkcdiiaaGreatDoor
open Go.RowKit

theorem read_nil {s : MS} (h : s.inp = []) (v : Int) : s.read v = (s.put v 0).see 1 0 := by
  obtain ⟨inp, _⟩ := s
  simp only at h
  subst h
  rfl
theorem read_cons {s : MS} {x : Int} {l : List Int} (h : s.inp = x :: l) (v : Int) : s.read v = (({ s with inp := l } : MS).put v x).see 1 x := by
  obtain ⟨inp, _⟩ := s
  simp only at h
  subst h
  rfl

set_option maxRecDepth 100000 in
set_option maxHeartbeats 8000000 in
theorem read_none_any {w : World} {ρ : Nat → Option Role} {G : RG} {s : MS} (h : RunR w ρ G s) (op bin v a b f arr jt : Nat) (n : Int) (av : Value) (hv : v < s.top.vars.length) (hin : s.inp = []) (hle : s.evs.length ≤ 1000000) :
    Calls Tryz.prog 79 #[.pointer (some ⟨G.r, 0, none⟩), .agg #[.int .u8 op, .int .i64 (v : Int), .int .i64 (a : Int), .int .i64 (b : Int), .int .i64 n, .int .u8 bin, av, .int .i64 (f : Int), .int .i64 (arr : Int), .int .i64 (jt : Int)], .slice (some ⟨G.t.b, 0, none⟩) s.top.vars.length s.top.vars.length] w fun e w' => e = .returned (.tuple #[]) ∧ ∃ ρ', Runs w' ρ' G.r G.n0 G.gp (s.read v) ∧ Kp ρ ρ' w w' := by
  rw [read_nil hin]
  obtain ⟨A, ci, hiv, _, _⟩ := h.inp
  rw [hin] at hiv
  have HIV := Lib.hid hiv
  clear hiv hin
  have PR := Lib.hid (pre_ins h #[.int .u8 op, .int .i64 (v : Int), .int .i64 (a : Int), .int .i64 (b : Int), .int .i64 n, .int .u8 bin, av, .int .i64 (f : Int), .int .i64 (arr : Int), .int .i64 (jt : Int)])
  have Hv := Lib.hid (show (v : Int) < (s.top.vars.length : Int) by omega)
  go_enter Tryz.func79, Tryz.ntmps79
  go_upto_region 1 with fail
  obtain ⟨W0, hW0⟩ : ∃ W0, W0 = w.alloc (.cells #[.int .u8 op, .int .i64 (v : Int), .int .i64 (a : Int), .int .i64 (b : Int), .int .i64 n, .int .u8 bin, av, .int .i64 (f : Int), .int .i64 (arr : Int), .int .i64 (jt : Int)] 71) := ⟨_, rfl⟩
  obtain ⟨bx, hbx⟩ : ∃ b, b = w.heap.size := ⟨_, rfl⟩
  rw [← hW0, ← hbx] at PR ⊢

  clear hW0 hbx
  have k1 := PR.out.box.cell 1
  have lb := PR.out.box.lt
  have kv := PR.out.r.vcell hv
  have fv := PR.out.r.vblk.free v
  have lv := PR.out.r.vblk.lt
  have hv0 := Hv.out
  have c3 : W0.cell? ⟨G.r, 3, none⟩ = some (.slice A 0 ci) := (PR.out.r.run.cell 3).trans (by simp [RG.cells, HIV.out])
  have lr := PR.out.r.run.lt
  have SEE := Lib.hid (see_any (PR.out.r.putVar v 0) 1 0 hle)
  have KP := Lib.hid (PR.out.kp.trans (Kp.set (a := ⟨G.t.b, v, none⟩) (PR.out.r.fr _ _ G.fs_at).2.2 (.int .i64 0)))
  clear PR hle
  go_wp2_with fail
  refine SEE.out.mono ?_
  rintro e w1 ⟨rfl, ρ1, hr1, hk1⟩
  have RF := Lib.hid hr1; have KF := Lib.hid (KP.out.trans hk1)
  clear hr1 hk1 SEE KP
  go_wp2_with fail
  go_end0
  exact ⟨rfl, ρ1, RF.out, KF.out⟩

set_option maxRecDepth 100000 in
set_option maxHeartbeats 8000000 in
theorem read_some_any {w : World} {ρ : Nat → Option Role} {G : RG} {s : MS} (h : RunR w ρ G s) (op bin v a b f arr jt : Nat) (n : Int) (av : Value) {x0 : Int} {rest : List Int} (hv : v < s.top.vars.length) (hin : s.inp = x0 :: rest) (hle : s.evs.length ≤ 1000000) :
    Calls Tryz.prog 79 #[.pointer (some ⟨G.r, 0, none⟩), .agg #[.int .u8 op, .int .i64 (v : Int), .int .i64 (a : Int), .int .i64 (b : Int), .int .i64 n, .int .u8 bin, av, .int .i64 (f : Int), .int .i64 (arr : Int), .int .i64 (jt : Int)], .slice (some ⟨G.t.b, 0, none⟩) s.top.vars.length s.top.vars.length] w fun e w' => e = .returned (.tuple #[]) ∧ ∃ ρ', Runs w' ρ' G.r G.n0 G.gp (s.read v) ∧ Kp ρ ρ' w w' := by
  rw [read_cons hin]
  obtain ⟨A, ci, hiv, hci, hcl⟩ := h.inp
  rw [hin] at hiv hci hcl
  obtain ⟨ib, io, rfl, hat⟩ : ∃ b o, A = some ⟨b, o, none⟩ ∧ ∀ i x, (x0 :: rest)[i]? = some x → intAt w b (o + i * 1) x := by
    rcases hcl with e | e
    · cases e
    · exact e
  have X0 := Lib.hid (show w.cell? ⟨ib, io, none⟩ = some (.int .i64 x0) from hat 0 x0 rfl)
  obtain ⟨ni, hni⟩ : ∃ n, n = (x0 :: rest).length := ⟨_, rfl⟩
  obtain ⟨nr, hnr⟩ : ∃ n, n = rest.length := ⟨_, rfl⟩
  have hn1 : ni = nr + 1 := by rw [hni, hnr]; rfl
  rw [← hni] at hiv hci
  have HIV := Lib.hid hiv; have HN0 := Lib.hid (show (0 : Int) < (ni : Int) by omega); have HN1 := Lib.hid hn1; have HNR := Lib.hid hnr; have HIN := Lib.hid hin; have HNI := Lib.hid hni; have HCI := Lib.hid hci
  have HTL := Lib.hid (show ∀ u : World, IntsV u G.iv s.inp → IntsV u (.slice (if ci = 1 then some ⟨ib, io, none⟩ else some ⟨ib, io + 1, none⟩) nr (ci - 1)) rest from fun u hu => by
    rw [hiv, hin] at hu
    obtain ⟨A2, c2, e2, _, h2⟩ := hu
    injection e2 with e3 _ e4
    subst e4
    refine ⟨_, _, by rw [hnr], by omega, ?_⟩
    by_cases h1 : ci = 1
    · left; exact List.eq_nil_of_length_eq_zero (by omega)
    · rw [if_neg h1]
      rcases h2 with h2 | ⟨b2, o2, e5, h2⟩
      · cases h2
      · rw [← e3] at e5
        injection e5 with e5; injection e5 with e6 e7 _
        subst e6; subst e7
        exact Or.inr ⟨ib, io + 1, rfl, fun i x hx => by have := h2 (i + 1) x (by simpa using hx); rw [show io + 1 + i * 1 = io + (i + 1) * 1 by omega]; exact this⟩)
  clear hiv hn1 hnr hin hni hci hcl hat
  have PR := Lib.hid (pre_ins h #[.int .u8 op, .int .i64 (v : Int), .int .i64 (a : Int), .int .i64 (b : Int), .int .i64 n, .int .u8 bin, av, .int .i64 (f : Int), .int .i64 (arr : Int), .int .i64 (jt : Int)])
  have Hv := Lib.hid (show (v : Int) < (s.top.vars.length : Int) by omega)
  go_enter Tryz.func79, Tryz.ntmps79
  go_upto_region 1 with fail
  obtain ⟨W0, hW0⟩ : ∃ W0, W0 = w.alloc (.cells #[.int .u8 op, .int .i64 (v : Int), .int .i64 (a : Int), .int .i64 (b : Int), .int .i64 n, .int .u8 bin, av, .int .i64 (f : Int), .int .i64 (arr : Int), .int .i64 (jt : Int)] 71) := ⟨_, rfl⟩
  obtain ⟨bx, hbx⟩ : ∃ b, b = w.heap.size := ⟨_, rfl⟩
  rw [← hW0, ← hbx] at PR ⊢

  clear hW0 hbx
  have C3 := Lib.hid (show W0.cell? ⟨G.r, 3, none⟩ = some (.slice (some ⟨ib, io, none⟩) ni ci) from (PR.out.r.run.cell 3).trans (by simp [RG.cells, HIV.out]))
  have X0 := Lib.hid (show W0.cell? ⟨ib, io, none⟩ = some (.int .i64 x0) by
    obtain ⟨A2, c2, e2, _, h2⟩ := PR.out.r.inp
    rw [HIV.out] at e2
    injection e2 with e3 _ _
    rcases h2 with h2 | ⟨b2, o2, e5, h2⟩
    · rw [HIN.out] at h2; cases h2
    · rw [← e3] at e5
      injection e5 with e5; injection e5 with e6 e7 _
      subst e6; subst e7
      exact h2 0 x0 (by rw [HIN.out]; rfl))
  have lr := PR.out.r.run.lt
  have q0 : 0 < ni := by have := HN1.out; omega
  have c3 := C3.out
  go_upto_region 3 with fail
  clear c3 q0
  by_cases h1 : ci = 1
  · have HQ := Lib.hid (show ci = 1 from h1)
    have HTV := Lib.hid (show ∀ u : World, IntsV u G.iv s.inp → IntsV u (.slice (some ⟨ib, io, none⟩) nr 0) rest from fun u hu => by have := HTL.out u hu; simpa [h1] using this)
    clear h1 HTL
    refine wp_region_float [some (none, .pointer (some ⟨G.r, 0, none⟩)), some (none, .pointer (some ⟨G.r, 0, none⟩)), some (none, .pointer (some ⟨G.r, 0, none⟩)), some (none, .pointer (some ⟨G.r, 3, none⟩)), some (none, .slice (some ⟨ib, io, none⟩) ni ci), some (none, .pointer (some ⟨ib, io, none⟩)), some (none, .int .i64 x0), some (none, .pointer (some ⟨G.r, 0, none⟩)), some (none, .pointer (some ⟨G.r, 0, none⟩)), some (none, .pointer (some ⟨G.r, 3, none⟩)), some (none, .slice (some ⟨ib, io, none⟩) ni ci), some (none, .slice (some ⟨ib, io, none⟩) nr 0), none, none, none, none] (fun W => Below W0.heap.size W0 W) 4 mixedT (fun _ a a2 _ hd h => by cases a; cases a2; cases hd; exact h) (by kernel_rfl) (fun _ _ h => h) ?_
    intro FF AA Wd hA hF hWh hWd
    have hL : HasL FF [(0, .pointer (some ⟨G.r, 0, none⟩)), (13, .pointer (some ⟨G.r, 0, none⟩)), (14, .pointer (some ⟨G.r, 0, none⟩)), (15, .pointer (some ⟨G.r, 0, none⟩)), (16, .pointer (some ⟨G.r, 3, none⟩)), (17, .slice (some ⟨ib, io, none⟩) ni ci), (18, .pointer (some ⟨ib, io, none⟩)), (19, .int .i64 x0), (20, .pointer (some ⟨G.r, 0, none⟩)), (21, .pointer (some ⟨G.r, 0, none⟩)), (22, .pointer (some ⟨G.r, 3, none⟩)), (23, .slice (some ⟨ib, io, none⟩) ni ci), (24, .slice (some ⟨ib, io, none⟩) nr 0)] := by unfold HasL; rw [hF, hA]; kernel_rfl
    have HF := Lib.hid hF; clear hF; have HA := Lib.hid hA; clear hA
    refine ⟨?_, ?_⟩
    · intro Z hZ
      repeat clear ‹∀ (a : Act) (w : World), Code.wp Tryz.prog _ _ a w → _›
      have gff := gd_ff
      have gtt := gd_tt
      have hq := HQ.out
      have hn0 := HN0.out
      have hn1 : (1 : Int) ≤ (ni : Int) := by omega
      have hn4 : ¬ ni = 0 := by omega
      have hn2 : ni - 1 = nr := by have := HN1.out; omega
      exact
      ResF.cons (FlRes.val (by have a0 := hL.at 0 rfl; go_simp)) (
      ResF.cons (FlRes.val (by have a0 := hL.at 0 rfl; go_simp)) (
      ResF.cons (FlRes.val (by have a14 := hL.at 2 rfl; go_simp)) (
      ResF.cons (FlRes.val (by have a15 := hL.at 3 rfl; go_simp)) (
      ResF.cons (FlRes.val (by have a16 := hL.at 4 rfl; have kk := get_b hZ C3.out; go_simp)) (
      ResF.cons (FlRes.val (by have a17 := hL.at 5 rfl; go_simp)) (
      ResF.cons (FlRes.val (by have a18 := hL.at 6 rfl; have kk := get_b hZ X0.out; go_simp)) (
      ResF.cons (FlRes.val (by have a0 := hL.at 0 rfl; go_simp)) (
      ResF.cons (FlRes.val (by have a20 := hL.at 8 rfl; go_simp)) (
      ResF.cons (FlRes.val (by have a21 := hL.at 9 rfl; go_simp)) (
      ResF.cons (FlRes.val (by have a22 := hL.at 10 rfl; have kk := get_b hZ C3.out; go_simp)) (
      ResF.cons (FlRes.val (by have a23 := hL.at 11 rfl; go_simp)) (
      ResF.pass (
      ResF.pass (
      ResF.pass (
      ResF.pass (
      ResF.nil))))))))))))))))
    clear hL
    obtain ⟨gf, hFF⟩ : ∃ gf : Nat → Value, FF = putL [(13, .pointer (some ⟨G.r, 0, none⟩)), (14, gf 14), (15, gf 15), (16, gf 16), (17, gf 17), (18, gf 18), (19, .int .i64 x0), (20, gf 20), (21, gf 21), (22, gf 22), (23, gf 23), (24, .slice (some ⟨ib, io, none⟩) nr 0)] AA := ⟨fun k => FF.tmps.getD k undef, by rw [HF.out, HA.out]; kernel_rfl⟩
    clear HF
    rw [HA.out] at hFF; clear HA
    simp only [putL, Act.put, List.setIfInBounds_toArray, List.set_cons_zero, List.set_cons_succ] at hFF
    subst hFF
    have P2 := PR.out.r.below hWd
    have KP := Lib.hid (PR.out.kp.trans (Kp.of_below hWd))
    have BX := Lib.hid (PR.out.box.below hWd)
    have R1 := Lib.hid (P2.setIn HTV.out)
    have c3 := get_b hWd C3.out
    have f3 := P2.run.free 3
    have lr := P2.run.lt
    have KP1 := Lib.hid (KP.out.trans (Kp.set (a := ⟨G.r, 3, none⟩) P2.runr (.slice (some ⟨ib, io, none⟩) nr 0)))
    refine wpAnyS_one 12 rfl (by kernel_rfl) (fun KK hK => ?_)
    go_simp
    refine hK.out _ _ (Or.inl hWd) ?_
    clear hK
    refine wpAnyS_one 13 rfl (by kernel_rfl) (fun KK hK => ?_)
    go_simp
    refine hK.out _ _ (Or.inl hWd) ?_
    clear hK
    refine wpAnyS_one 14 rfl (by kernel_rfl) (fun KK hK => ?_)
    go_simp
    refine hK.out _ _ (Or.inl hWd) ?_
    clear hK
    refine wpAnyS_one 15 rfl (by kernel_rfl) (fun KK hK => ?_)
    go_simp
    refine hK.out _ _ (Or.inr (by kernel_rfl)) ?_
    clear hK
    refine wpAnyS_end (by kernel_rfl) ?_
    have hgb : ∀ j, (Wd.setCell ⟨G.r, 3, none⟩ (.slice (some ⟨ib, io, none⟩) nr 0)).cell? ⟨bx, j, none⟩ = Wd.cell? ⟨bx, j, none⟩ := fun j => World.cell?_of_block (Below.heap_setCell _ _ _ _ (fun e => by have e : bx = G.r := e; have := PR.out.no; rw [e, PR.out.r.runr] at this; cases this))
    have k1 := (hgb 1).trans (BX.out.cell 1)
    have lb : bx < (Wd.setCell ⟨G.r, 3, none⟩ (.slice (some ⟨ib, io, none⟩) nr 0)).heap.size := by simp only [World.setCell, Array.size_modify]; exact BX.out.lt
    obtain ⟨W1, hW1⟩ : ∃ W1, W1 = Wd.setCell ⟨G.r, 3, none⟩ (.slice (some ⟨ib, io, none⟩) nr 0) := ⟨_, rfl⟩
    rw [← hW1] at R1 KP1 k1 lb ⊢
    clear hW1 hgb c3 f3 lr hWd hWh
    have kv := R1.out.vcell (a := v) hv
    have fv := R1.out.vblk.free v
    have lv := R1.out.vblk.lt
    have hv0 := Hv.out
    have SEE := Lib.hid (see_any (R1.out.putVar v x0) 1 x0 hle)
    have KP := Lib.hid (KP1.out.trans (Kp.set (a := ⟨G.t.b, v, none⟩) (R1.out.fr _ _ (RG.fs_at _)).2.2 (.int .i64 x0)))
    clear PR KP1 hle P2
    go_wp2_with fail
    refine SEE.out.mono ?_
    rintro e w1 ⟨rfl, ρ1, hr1, hk1⟩
    have RF := Lib.hid hr1; have KF := Lib.hid (KP.out.trans hk1)
    clear hr1 hk1 SEE KP
    go_wp2_with fail
    go_end0
    exact ⟨rfl, ρ1, RF.out, KF.out⟩
  · have HQ := Lib.hid (show ci ≠ 1 from h1)
    have HTV := Lib.hid (show ∀ u : World, IntsV u G.iv s.inp → IntsV u (.slice (some ⟨ib, io + 1, none⟩) nr (ci - 1)) rest from fun u hu => by have := HTL.out u hu; simpa [h1] using this)
    clear h1 HTL
    refine wp_region_float [some (none, .pointer (some ⟨G.r, 0, none⟩)), some (none, .pointer (some ⟨G.r, 0, none⟩)), some (none, .pointer (some ⟨G.r, 0, none⟩)), some (none, .pointer (some ⟨G.r, 3, none⟩)), some (none, .slice (some ⟨ib, io, none⟩) ni ci), some (none, .pointer (some ⟨ib, io, none⟩)), some (none, .int .i64 x0), some (none, .pointer (some ⟨G.r, 0, none⟩)), some (none, .pointer (some ⟨G.r, 0, none⟩)), some (none, .pointer (some ⟨G.r, 3, none⟩)), some (none, .slice (some ⟨ib, io, none⟩) ni ci), some (none, .slice (some ⟨ib, io + 1, none⟩) nr (ci - 1)), none, none, none, none] (fun W => Below W0.heap.size W0 W) 4 mixedT (fun _ a a2 _ hd h => by cases a; cases a2; cases hd; exact h) (by kernel_rfl) (fun _ _ h => h) ?_
    intro FF AA Wd hA hF hWh hWd
    have hL : HasL FF [(0, .pointer (some ⟨G.r, 0, none⟩)), (13, .pointer (some ⟨G.r, 0, none⟩)), (14, .pointer (some ⟨G.r, 0, none⟩)), (15, .pointer (some ⟨G.r, 0, none⟩)), (16, .pointer (some ⟨G.r, 3, none⟩)), (17, .slice (some ⟨ib, io, none⟩) ni ci), (18, .pointer (some ⟨ib, io, none⟩)), (19, .int .i64 x0), (20, .pointer (some ⟨G.r, 0, none⟩)), (21, .pointer (some ⟨G.r, 0, none⟩)), (22, .pointer (some ⟨G.r, 3, none⟩)), (23, .slice (some ⟨ib, io, none⟩) ni ci), (24, .slice (some ⟨ib, io + 1, none⟩) nr (ci - 1))] := by unfold HasL; rw [hF, hA]; kernel_rfl
    have HF := Lib.hid hF; clear hF; have HA := Lib.hid hA; clear hA
    refine ⟨?_, ?_⟩
    · intro Z hZ
      repeat clear ‹∀ (a : Act) (w : World), Code.wp Tryz.prog _ _ a w → _›
      have gff := gd_ff
      have gtt := gd_tt
      have hq := HQ.out
      have hn0 := HN0.out
      have hn1 : (1 : Int) ≤ (ni : Int) := by omega
      have hn4 : ¬ ni = 0 := by omega
      have hn2 : ni - 1 = nr := by have := HN1.out; omega
      exact
      ResF.cons (FlRes.val (by have a0 := hL.at 0 rfl; go_simp)) (
      ResF.cons (FlRes.val (by have a0 := hL.at 0 rfl; go_simp)) (
      ResF.cons (FlRes.val (by have a14 := hL.at 2 rfl; go_simp)) (
      ResF.cons (FlRes.val (by have a15 := hL.at 3 rfl; go_simp)) (
      ResF.cons (FlRes.val (by have a16 := hL.at 4 rfl; have kk := get_b hZ C3.out; go_simp)) (
      ResF.cons (FlRes.val (by have a17 := hL.at 5 rfl; go_simp)) (
      ResF.cons (FlRes.val (by have a18 := hL.at 6 rfl; have kk := get_b hZ X0.out; go_simp)) (
      ResF.cons (FlRes.val (by have a0 := hL.at 0 rfl; go_simp)) (
      ResF.cons (FlRes.val (by have a20 := hL.at 8 rfl; go_simp)) (
      ResF.cons (FlRes.val (by have a21 := hL.at 9 rfl; go_simp)) (
      ResF.cons (FlRes.val (by have a22 := hL.at 10 rfl; have kk := get_b hZ C3.out; go_simp)) (
      ResF.cons (FlRes.val (by have a23 := hL.at 11 rfl; go_simp)) (
      ResF.pass (
      ResF.pass (
      ResF.pass (
      ResF.pass (
      ResF.nil))))))))))))))))
    clear hL
    obtain ⟨gf, hFF⟩ : ∃ gf : Nat → Value, FF = putL [(13, .pointer (some ⟨G.r, 0, none⟩)), (14, gf 14), (15, gf 15), (16, gf 16), (17, gf 17), (18, gf 18), (19, .int .i64 x0), (20, gf 20), (21, gf 21), (22, gf 22), (23, gf 23), (24, .slice (some ⟨ib, io + 1, none⟩) nr (ci - 1))] AA := ⟨fun k => FF.tmps.getD k undef, by rw [HF.out, HA.out]; kernel_rfl⟩
    clear HF
    rw [HA.out] at hFF; clear HA
    simp only [putL, Act.put, List.setIfInBounds_toArray, List.set_cons_zero, List.set_cons_succ] at hFF
    subst hFF
    have P2 := PR.out.r.below hWd
    have KP := Lib.hid (PR.out.kp.trans (Kp.of_below hWd))
    have BX := Lib.hid (PR.out.box.below hWd)
    have R1 := Lib.hid (P2.setIn HTV.out)
    have c3 := get_b hWd C3.out
    have f3 := P2.run.free 3
    have lr := P2.run.lt
    have KP1 := Lib.hid (KP.out.trans (Kp.set (a := ⟨G.r, 3, none⟩) P2.runr (.slice (some ⟨ib, io + 1, none⟩) nr (ci - 1))))
    refine wpAnyS_one 12 rfl (by kernel_rfl) (fun KK hK => ?_)
    go_simp
    refine hK.out _ _ (Or.inl hWd) ?_
    clear hK
    refine wpAnyS_one 13 rfl (by kernel_rfl) (fun KK hK => ?_)
    go_simp
    refine hK.out _ _ (Or.inl hWd) ?_
    clear hK
    refine wpAnyS_one 14 rfl (by kernel_rfl) (fun KK hK => ?_)
    go_simp
    refine hK.out _ _ (Or.inl hWd) ?_
    clear hK
    refine wpAnyS_one 15 rfl (by kernel_rfl) (fun KK hK => ?_)
    go_simp
    refine hK.out _ _ (Or.inr (by kernel_rfl)) ?_
    clear hK
    refine wpAnyS_end (by kernel_rfl) ?_
    have hgb : ∀ j, (Wd.setCell ⟨G.r, 3, none⟩ (.slice (some ⟨ib, io + 1, none⟩) nr (ci - 1))).cell? ⟨bx, j, none⟩ = Wd.cell? ⟨bx, j, none⟩ := fun j => World.cell?_of_block (Below.heap_setCell _ _ _ _ (fun e => by have e : bx = G.r := e; have := PR.out.no; rw [e, PR.out.r.runr] at this; cases this))
    have k1 := (hgb 1).trans (BX.out.cell 1)
    have lb : bx < (Wd.setCell ⟨G.r, 3, none⟩ (.slice (some ⟨ib, io + 1, none⟩) nr (ci - 1))).heap.size := by simp only [World.setCell, Array.size_modify]; exact BX.out.lt
    obtain ⟨W1, hW1⟩ : ∃ W1, W1 = Wd.setCell ⟨G.r, 3, none⟩ (.slice (some ⟨ib, io + 1, none⟩) nr (ci - 1)) := ⟨_, rfl⟩
    rw [← hW1] at R1 KP1 k1 lb ⊢
    clear hW1 hgb c3 f3 lr hWd hWh
    have kv := R1.out.vcell (a := v) hv
    have fv := R1.out.vblk.free v
    have lv := R1.out.vblk.lt
    have hv0 := Hv.out
    have SEE := Lib.hid (see_any (R1.out.putVar v x0) 1 x0 hle)
    have KP := Lib.hid (KP1.out.trans (Kp.set (a := ⟨G.t.b, v, none⟩) (R1.out.fr _ _ (RG.fs_at _)).2.2 (.int .i64 x0)))
    clear PR KP1 hle P2
    go_wp2_with fail
    refine SEE.out.mono ?_
    rintro e w1 ⟨rfl, ρ1, hr1, hk1⟩
    have RF := Lib.hid hr1; have KF := Lib.hid (KP.out.trans hk1)
    clear hr1 hk1 SEE KP
    go_wp2_with fail
    go_end0
    exact ⟨rfl, ρ1, RF.out, KF.out⟩
end Go.Proofs.YtgdibfnpkcdiiaaGreatDoor

/- A frame less; a function is left. By an AI agent. -/
namespace Go.Proofs.YtgdibfnpkcdiiaaGreatDoor
open Go.RowKit


set_option maxRecDepth 100000 in
set_option maxHeartbeats 8000000 in
theorem pop_raw (r fb k m cap : Nat) (cs : Array Value) (nm : ByteArray) (pa va ff ii into : Int) (CA VA : Option Addr) (cn cc vn vc : Nat) (w : World) (hb : Blk w r 113 cs) (h5 : cs[5]? = some (.slice (some ⟨fb, 0, none⟩) m cap)) (hm : m = k + 1) (hk : k ≤ 1000000) (hmc : m ≤ cap) (hf : ∀ i u, #[.string nm, .int .i64 pa, .int .i64 va, .slice CA cn cc, .int .i64 ff, .int .i64 ii, .slice VA vn vc, .int .i64 into][i]? = some u → w.cell? ⟨fb, k * 8 + i, none⟩ = some u) :
    Calls Tryz.prog 125 #[.pointer (some ⟨r, 5, none⟩)] w fun e w' => e = .returned (.agg #[.string nm, .int .i64 pa, .int .i64 va, .slice CA cn cc, .int .i64 ff, .int .i64 ii, .slice VA vn vc, .int .i64 into]) ∧ ∃ W1, Below w.heap.size w W1 ∧ Below w.heap.size (W1.setCell ⟨r, 5, none⟩ (.slice (some ⟨fb, 0, none⟩) k cap)) w' := by
  have HC := Lib.hid ((hb.cell 5).trans h5); have HM := Lib.hid hm; have HK := Lib.hid hk; have HMC := Lib.hid hmc; have HB := Lib.hid hb
  have F0 := Lib.hid (show w.cell? ⟨fb, k * 8, none⟩ = some (.string nm) from hf 0 _ rfl); have F1 := Lib.hid (hf 1 _ rfl); have F2 := Lib.hid (hf 2 _ rfl); have F3 := Lib.hid (hf 3 _ rfl); have F4 := Lib.hid (hf 4 _ rfl); have F5 := Lib.hid (hf 5 _ rfl); have F6 := Lib.hid (hf 6 _ rfl); have F7 := Lib.hid (hf 7 _ rfl)
  have hrl := hb.lt
  have TOP := Lib.hid (fun (W : World) (hc : W.cell? ⟨r, 5, none⟩ = some (.slice (some ⟨fb, 0, none⟩) m cap)) => top_any r fb k m cap W hc hm hk)
  clear hb h5 hm hk hmc hf
  go_enter Tryz.func125, Tryz.ntmps125
  go_upto_region 1 with fail
  obtain ⟨W0, hW0⟩ : ∃ W0, W0 = w.alloc (.cells #[.string ⟨#[]⟩, .int .i64 0, .int .i64 0, .slice none 0 0, .int .i64 0, .int .i64 0, .slice none 0 0, .int .i64 0] 119) := ⟨_, rfl⟩
  obtain ⟨rb, hrb⟩ : ∃ b, b = w.heap.size := ⟨_, rfl⟩
  have HB0 := Lib.hid (show Below w.heap.size w W0 by rw [hW0]; exact (Below.refl _ _).alloc (Nat.le_refl _) _)
  have RB := Lib.hid (show Blk W0 rb 119 #[.string ⟨#[]⟩, .int .i64 0, .int .i64 0, .slice none 0 0, .int .i64 0, .int .i64 0, .slice none 0 0, .int .i64 0] by rw [hW0, hrb]; exact Blk.new w 119 _)
  rw [← hW0, ← hrb]
  have HRB := Lib.hid hrb
  clear hW0 hrb
  go_wp2_with fail
  refine (TOP.out W0 (get_b HB0.out HC.out)).mono ?_
  rintro e w1 ⟨rfl, hb1⟩
  have HB1 := Lib.hid (below_next HB0.out hb1)
  have RB1 := Lib.hid (RB.out.below hb1)
  clear hb1
  have k0 := get_b HB1.out F0.out; have k1 := get_b HB1.out F1.out; have k2 := get_b HB1.out F2.out; have k3 := get_b HB1.out F3.out; have k4 := get_b HB1.out F4.out; have k5 := get_b HB1.out F5.out; have k6 := get_b HB1.out F6.out; have k7 := get_b HB1.out F7.out
  have lf := cell_lt' k0
  go_upto_region 2 with fail
  clear k0 k1 k2 k3 k4 k5 k6 k7 lf
  obtain ⟨W2, hW2⟩ : ∃ W2, W2 = w1.alloc (.cells #[.string nm, .int .i64 pa, .int .i64 va, .slice CA cn cc, .int .i64 ff, .int .i64 ii, .slice VA vn vc, .int .i64 into] 119) := ⟨_, rfl⟩
  obtain ⟨xb, hxb⟩ : ∃ b, b = w1.heap.size := ⟨_, rfl⟩
  have HB2 := Lib.hid (show Below w.heap.size w W2 by rw [hW2]; exact HB1.out.alloc HB1.out.size _)
  have RB2 := Lib.hid (show Blk W2 rb 119 #[.string ⟨#[]⟩, .int .i64 0, .int .i64 0, .slice none 0 0, .int .i64 0, .int .i64 0, .slice none 0 0, .int .i64 0] by rw [hW2]; exact RB1.out.alloc _)
  have XB := Lib.hid (show Blk W2 xb 119 #[.string nm, .int .i64 pa, .int .i64 va, .slice CA cn cc, .int .i64 ff, .int .i64 ii, .slice VA vn vc, .int .i64 into] by rw [hW2, hxb]; exact Blk.new w1 119 _)
  have HNE := Lib.hid (show rb ≠ xb by have := RB1.out.lt; omega)
  have HXW := Lib.hid (show w.heap.size ≤ xb by have := HB1.out.size; omega)
  rw [← hW2, ← hxb]
  clear hW2 hxb
  have C5 := Lib.hid (get_b HB2.out HC.out)
  have HE := Lib.hid (show IntKind.i64.wrap ((m : Int) - 1) = k from (IntWalk.i64_in _ (by have := HM.out; have := HK.out; omega)).trans (by have := HM.out; omega))
  have HM1 := Lib.hid (show (k : Int) ≤ (cap : Int) by have := HM.out; have := HMC.out; omega)
  have HM2 := Lib.hid (show k ≤ cap by have := HM.out; have := HMC.out; omega)
  refine wp_region_float [some (none, .pointer (some ⟨r, 5, none⟩)), some (none, .pointer (some ⟨r, 5, none⟩)), some (none, .pointer (some ⟨r, 5, none⟩)), some (none, .slice (some ⟨fb, 0, none⟩) m cap), some (none, .pointer (some ⟨r, 5, none⟩)), some (none, .pointer (some ⟨r, 5, none⟩)), some (none, .slice (some ⟨fb, 0, none⟩) m cap), some (none, .int .i64 (m : Int)), some (none, .int .i64 (k : Int)), some (none, .slice (some ⟨fb, 0, none⟩) k cap), none, none] (fun W => Below W2.heap.size W2 W) 2 mixedT (fun _ a a2 _ hd h => by cases a; cases a2; cases hd; exact h) (by kernel_rfl) (fun _ _ h => h) ?_
  intro FF AA Wd hA hF hWh hWd
  have hL : HasL FF [(0, .pointer (some ⟨r, 5, none⟩)), (8, .pointer (some ⟨r, 5, none⟩)), (9, .pointer (some ⟨r, 5, none⟩)), (10, .pointer (some ⟨r, 5, none⟩)), (11, .slice (some ⟨fb, 0, none⟩) m cap), (12, .pointer (some ⟨r, 5, none⟩)), (13, .pointer (some ⟨r, 5, none⟩)), (14, .slice (some ⟨fb, 0, none⟩) m cap), (15, .int .i64 (m : Int)), (16, .int .i64 (k : Int)), (17, .slice (some ⟨fb, 0, none⟩) k cap)] := by unfold HasL; rw [hF, hA]; kernel_rfl
  have HF := Lib.hid hF; clear hF; have HA := Lib.hid hA; clear hA
  refine ⟨?_, ?_⟩
  · intro Z hZ
    repeat clear ‹∀ (a : Act) (w : World), Code.wp Tryz.prog _ _ a w → _›
    have gff := gd_ff
    have gtt := gd_tt
    have he0 := HE.out
    have hm1 := HM1.out
    have hm2 := HM2.out
    exact
    ResF.cons (FlRes.val (by have a0 := hL.at 0 rfl; go_simp)) (
    ResF.cons (FlRes.val (by have a0 := hL.at 0 rfl; go_simp)) (
    ResF.cons (FlRes.val (by have a9 := hL.at 2 rfl; go_simp)) (
    ResF.cons (FlRes.val (by have a10 := hL.at 3 rfl; have kk := get_b hZ C5.out; go_simp)) (
    ResF.cons (FlRes.val (by have a0 := hL.at 0 rfl; go_simp)) (
    ResF.cons (FlRes.val (by have a12 := hL.at 5 rfl; go_simp)) (
    ResF.cons (FlRes.val (by have a13 := hL.at 6 rfl; have kk := get_b hZ C5.out; go_simp)) (
    ResF.cons (FlRes.val (by have a14 := hL.at 7 rfl; go_simp)) (
    ResF.cons (FlRes.val (by have a15 := hL.at 8 rfl; go_simp)) (
    ResF.cons (FlRes.val (by have a11 := hL.at 4 rfl; have a16 := hL.at 9 rfl; go_simp)) (
    ResF.pass (
    ResF.pass (
    ResF.nil))))))))))))
  clear hL
  obtain ⟨gf, hFF⟩ : ∃ gf : Nat → Value, FF = putL [(8, .pointer (some ⟨r, 5, none⟩)), (9, gf 9), (10, gf 10), (11, gf 11), (12, gf 12), (13, gf 13), (14, gf 14), (15, gf 15), (16, gf 16), (17, .slice (some ⟨fb, 0, none⟩) k cap)] AA := ⟨fun k => FF.tmps.getD k undef, by rw [HF.out, HA.out]; kernel_rfl⟩
  clear HF
  rw [HA.out] at hFF; clear HA
  simp only [putL, Act.put, List.setIfInBounds_toArray, List.set_cons_zero, List.set_cons_succ] at hFF
  subst hFF
  refine wpAnyS_one 10 rfl (by kernel_rfl) (fun KK hK => ?_)
  go_simp
  refine hK.out _ _ (Or.inl hWd) ?_
  clear hK
  have c5 := get_b hWd C5.out
  have f5 := ((HB.out.below HB2.out).below hWd).free 5
  have l5 := ((HB.out.below HB2.out).below hWd).lt
  refine wpAnyS_one 11 rfl (by kernel_rfl) (fun KK hK => ?_)
  go_simp
  refine hK.out _ _ (Or.inr (by kernel_rfl)) ?_
  clear hK
  refine wpAnyS_end (by kernel_rfl) ?_
  have BD := Lib.hid (HB2.out.trans (hWd.mono HB2.out.size))
  have RB3 := Lib.hid (RB2.out.below hWd); have XB3 := Lib.hid (XB.out.below hWd)
  clear hWd hWh c5 f5 l5
  have hrr : r ≠ rb := by have := HRB.out; omega
  have hrx : r ≠ xb := by have := HXW.out; omega
  have RB4 := Lib.hid (show Blk (Wd.setCell ⟨r, 5, none⟩ (.slice (some ⟨fb, 0, none⟩) k cap)) rb 119 #[.string ⟨#[]⟩, .int .i64 0, .int .i64 0, .slice none 0 0, .int .i64 0, .int .i64 0, .slice none 0 0, .int .i64 0] from RB3.out.far (fun e => hrr e.symm) _ _)
  have XB4 := Lib.hid (show Blk (Wd.setCell ⟨r, 5, none⟩ (.slice (some ⟨fb, 0, none⟩) k cap)) xb 119 #[.string nm, .int .i64 pa, .int .i64 va, .slice CA cn cc, .int .i64 ff, .int .i64 ii, .slice VA vn vc, .int .i64 into] from XB3.out.far (fun e => hrx e.symm) _ _)
  have HRL := Lib.hid hrl
  obtain ⟨W5, hW5⟩ : ∃ W5, W5 = Wd.setCell ⟨r, 5, none⟩ (.slice (some ⟨fb, 0, none⟩) k cap) := ⟨_, rfl⟩
  rw [← hW5] at RB4 XB4 ⊢
  have HW5 := Lib.hid hW5
  have x0 := XB4.out.cell 0; have x1 := XB4.out.cell 1; have x2 := XB4.out.cell 2; have x3 := XB4.out.cell 3; have x4 := XB4.out.cell 4; have x5 := XB4.out.cell 5; have x6 := XB4.out.cell 6; have x7 := XB4.out.cell 7
  have xl := XB4.out.lt
  have r0 := RB4.out.cell 0; have rf0 := RB4.out.free 0; have r1 := RB4.out.cell 1; have rf1 := RB4.out.free 1; have r2 := RB4.out.cell 2; have rf2 := RB4.out.free 2; have r3 := RB4.out.cell 3; have rf3 := RB4.out.free 3; have r4 := RB4.out.cell 4; have rf4 := RB4.out.free 4; have r5 := RB4.out.cell 5; have rf5 := RB4.out.free 5; have r6 := RB4.out.cell 6; have rf6 := RB4.out.free 6; have r7 := RB4.out.cell 7; have rf7 := RB4.out.free 7
  have rl := RB4.out.lt
  clear hW5 hrr hrx hrl
  go_wp2_with fail
  have hbkF : Blk ((((((((W5.setCell ⟨rb, 0, none⟩ (.string nm)).setCell ⟨rb, 1, none⟩ (.int .i64 pa)).setCell ⟨rb, 2, none⟩ (.int .i64 va)).setCell ⟨rb, 3, none⟩ (.slice CA cn cc)).setCell ⟨rb, 4, none⟩ (.int .i64 ff)).setCell ⟨rb, 5, none⟩ (.int .i64 ii)).setCell ⟨rb, 6, none⟩ (.slice VA vn vc)).setCell ⟨rb, 7, none⟩ (.int .i64 into)) rb 119 #[.string nm, .int .i64 pa, .int .i64 va, .slice CA cn cc, .int .i64 ff, .int .i64 ii, .slice VA vn vc, .int .i64 into] := ((((((((RB4.out.put 0 (.string nm)).put 1 (.int .i64 pa)).put 2 (.int .i64 va)).put 3 (.slice CA cn cc)).put 4 (.int .i64 ff)).put 5 (.int .i64 ii)).put 6 (.slice VA vn vc)).put 7 (.int .i64 into))
  refine bodyPost_ret (results_cell_row rfl _ _ rb 119 #[.string nm, .int .i64 pa, .int .i64 va, .slice CA cn cc, .int .i64 ff, .int .i64 ii, .slice VA vn vc, .int .i64 into] (0, 0) _ rfl hbkF Tryz.underlying119 rfl (by kernel_rfl)) rfl ?_
  have hge : w.heap.size ≤ rb := Nat.le_of_eq HRB.out.symm
  exact ⟨rfl, Wd, BD.out, by rw [← HW5.out]; exact (((((((((Below.refl w.heap.size W5).setCell (p := ⟨rb, 0, none⟩) hge (.string nm)).setCell (p := ⟨rb, 1, none⟩) hge (.int .i64 pa)).setCell (p := ⟨rb, 2, none⟩) hge (.int .i64 va)).setCell (p := ⟨rb, 3, none⟩) hge (.slice CA cn cc)).setCell (p := ⟨rb, 4, none⟩) hge (.int .i64 ff)).setCell (p := ⟨rb, 5, none⟩) hge (.int .i64 ii)).setCell (p := ⟨rb, 6, none⟩) hge (.slice VA vn vc)).setCell (p := ⟨rb, 7, none⟩) hge (.int .i64 into))⟩
theorem code_form {w : World} {gp : PrG} (h : PrR w gp) {f : Nat} {x : FnG} (hx : gp.l[f]? = some x) : ∃ A n c, x.cv = .slice A n c := by
  obtain ⟨A, c, e, _, hr⟩ := h.fns
  rcases hr with hr | ⟨b, o, _, hr⟩
  · rw [hr] at hx; simp at hx
  · obtain ⟨A2, c2, e2, _⟩ := (hr f x hx).code
    exact ⟨_, _, _, e2⟩
theorem pop_any {w : World} {ρ : Nat → Option Role} {G : RG} {s : MS} (h : RunR w ρ G s) {bs : List FrG} {t : FrG} (hb : G.bs = bs ++ [t]) (hbl : G.bs.length ≤ 1000000) :
    Calls Tryz.prog 125 #[.pointer (some ⟨G.r, 5, none⟩)] w fun e w' => e = .returned (.agg (frC G.t).toArray) ∧ (∃ G', G'.r = G.r ∧ G'.n0 = G.n0 ∧ G'.gp = G.gp ∧ G'.t = t ∧ G'.bs = bs ∧ RunR w' ρ G' { s with base := s.base.dropLast, top := t.r }) ∧ Kp ρ ρ w w' ∧ (∀ k, k < w.heap.size → k ≠ G.r → w'.heap[k]? = w.heap[k]?) := by
  obtain ⟨fb, cap, hv⟩ := h.frv_form
  obtain ⟨CA, cn, cc, hcv⟩ := code_form h.pr (h.fr _ _ G.fs_at).1
  have hfr : frC G.t = [.string ⟨G.t.x.fn.name.toArray⟩, .int .i64 G.t.x.fn.params, .int .i64 G.t.x.fn.vars, .slice CA cn cc, .int .i64 G.t.r.f, .int .i64 G.t.r.i, .slice (some ⟨G.t.b, 0, none⟩) G.t.r.vars.length G.t.r.vars.length, .int .i64 G.t.r.into] := by rw [← hcv]; rfl
  have hmc : G.bs.length + 1 ≤ cap := by
    rcases h.frow.2 with ⟨e, _⟩ | ⟨_, _, _, e, _, _, hn, _⟩
    · rw [hv] at e; cases e
    · rw [hv] at e; injection e with _ e1 e2; omega
  have hml : G.bs.length = bs.length + 1 := by rw [hb]; simp
  refine (pop_raw G.r fb G.bs.length (G.bs.length + 1) cap (G.cells s) ⟨G.t.x.fn.name.toArray⟩ G.t.x.fn.params G.t.x.fn.vars G.t.r.f G.t.r.i G.t.r.into CA (some ⟨G.t.b, 0, none⟩) cn cc G.t.r.vars.length G.t.r.vars.length w h.run (by simp [RG.cells, hv]) rfl hbl hmc (fun i u hu => ?_)).mono ?_
  · have hi : i < 8 := by
      have := (Array.getElem?_eq_some_iff.1 hu).1
      simpa using this
    rw [frame_cell h hv i hi, hfr]
    simpa using hu
  · rintro e w' ⟨rfl, W1, hb1, hb2⟩
    have R1 := (h.below hb1).pop hb (by rw [hv])
    have R2 := R1.keep hb2.size fun b q e => hb2.block b (h.dom b q e).2
    have far : ∀ k, k < w.heap.size → k ≠ G.r → w'.heap[k]? = w.heap[k]? := fun k hk hr => by
      rw [hb2.block k hk, Below.heap_setCell _ _ _ _ (fun e => hr e), hb1.block k hk]
    refine ⟨by rw [hfr], ⟨{ G with frv := .slice (some ⟨fb, 0, none⟩) G.bs.length cap, bs := bs, t := t }, rfl, rfl, rfl, rfl, rfl, R2⟩, ⟨hb2.os.trans hb1.os, hb2.tape.trans hb1.tape, hb2.output.trans hb1.output, Nat.le_trans hb1.size (Nat.le_trans (by simp [World.setCell]) hb2.size), fun k hk hr => far k hk (fun e => by rw [e, h.runr] at hr; cases hr), fun _ _ e => e⟩, far⟩
end Go.Proofs.YtgdibfnpkcdiiaaGreatDoor

/- A function is left. By an AI agent. -/
namespace Go.Proofs.YtgdibfnpkcdiiaaGreatDoor
open Go.RowKit


set_option maxRecDepth 100000 in
set_option maxHeartbeats 8000000 in
theorem ret_last_any {w : World} {ρ : Nat → Option Role} {G : RG} {s : MS} (h : RunR w ρ G s) (op bin v a b f arr jt : Nat) (n : Int) (av : Value) (ha : a < s.top.vars.length) (hbe : s.base = []) (hle : s.evs.length ≤ 1000000) :
    Calls Tryz.prog 83 #[.pointer (some ⟨G.r, 0, none⟩), .agg #[.int .u8 op, .int .i64 (v : Int), .int .i64 (a : Int), .int .i64 (b : Int), .int .i64 n, .int .u8 bin, av, .int .i64 (f : Int), .int .i64 (arr : Int), .int .i64 (jt : Int)], .slice (some ⟨G.t.b, 0, none⟩) s.top.vars.length s.top.vars.length] w fun e w' => e = .returned (.tuple #[]) ∧ ∃ ρ', Runs w' ρ' G.r G.n0 G.gp (s.ret (s.v a)) ∧ Kp ρ ρ' w w' := by
  have hs : s.ret (s.v (a : Int)) = s.see 3 (s.v (a : Int)) := by simp [MS.ret, hbe]
  rw [hs]
  clear hs
  obtain ⟨fb, cap, hfv⟩ := h.frv_form
  have hbs : G.bs.length = 0 := by have := congrArg List.length h.fb; rw [hbe, List.length_map] at this; exact this
  rw [hbs] at hfv
  have HFV := Lib.hid hfv; clear hfv hbs hbe
  have PR := Lib.hid (pre_ins h #[.int .u8 op, .int .i64 (v : Int), .int .i64 (a : Int), .int .i64 (b : Int), .int .i64 n, .int .u8 bin, av, .int .i64 (f : Int), .int .i64 (arr : Int), .int .i64 (jt : Int)])
  have Ha := Lib.hid (show (a : Int) < (s.top.vars.length : Int) by omega)
  obtain ⟨xa, hxa⟩ : ∃ x, x = s.v (a : Int) := ⟨_, rfl⟩
  have Va := Lib.hid (PR.out.r.vcell (a := a) ha)
  rw [← hxa] at Va ⊢
  clear hxa
  go_enter Tryz.func83, Tryz.ntmps83
  go_upto_region 1 with fail
  obtain ⟨W0, hW0⟩ : ∃ W0, W0 = w.alloc (.cells #[.int .u8 op, .int .i64 (v : Int), .int .i64 (a : Int), .int .i64 (b : Int), .int .i64 n, .int .u8 bin, av, .int .i64 (f : Int), .int .i64 (arr : Int), .int .i64 (jt : Int)] 71) := ⟨_, rfl⟩
  obtain ⟨bx, hbx⟩ : ∃ b, b = w.heap.size := ⟨_, rfl⟩
  rw [← hW0, ← hbx] at PR ⊢
  rw [← hW0] at Va
  clear hW0 hbx
  have c5 := PR.out.r.frvc HFV.out
  have k2 := PR.out.box.cell 2
  have lb := PR.out.box.lt
  have lr := PR.out.r.run.lt
  have va := Va.out
  have ha0 := Ha.out
  have lv := cell_lt' va
  have SEE := Lib.hid (see_any PR.out.r 3 xa hle)
  have KP := Lib.hid PR.out.kp
  clear PR Va hle
  go_wp2_with fail
  refine SEE.out.mono ?_
  rintro e w1 ⟨rfl, ρ1, hr1, hk1⟩
  have RF := Lib.hid hr1; have KF := Lib.hid (KP.out.trans hk1)
  clear hr1 hk1 SEE KP
  go_wp2_with fail
  (try simp only [Exit.inBlock, Exit.then])
  refine bodyPost_ret (results_none rfl _ _ _) rfl ?_
  exact ⟨rfl, ρ1, RF.out, KF.out⟩

set_option maxRecDepth 100000 in
set_option maxHeartbeats 8000000 in
theorem ret_more_any {w : World} {ρ : Nat → Option Role} {G : RG} {s : MS} (h : RunR w ρ G s) (op bin v a b f arr jt : Nat) (n : Int) (av : Value) {bs : List FrG} {t : FrG} (ha : a < s.top.vars.length) (hbe : G.bs = bs ++ [t]) (hin : s.top.into < t.r.vars.length) (hbl : G.bs.length ≤ 1000000) :
    Calls Tryz.prog 83 #[.pointer (some ⟨G.r, 0, none⟩), .agg #[.int .u8 op, .int .i64 (v : Int), .int .i64 (a : Int), .int .i64 (b : Int), .int .i64 n, .int .u8 bin, av, .int .i64 (f : Int), .int .i64 (arr : Int), .int .i64 (jt : Int)], .slice (some ⟨G.t.b, 0, none⟩) s.top.vars.length s.top.vars.length] w fun e w' => e = .returned (.tuple #[]) ∧ ∃ ρ', Runs w' ρ' G.r G.n0 G.gp (s.ret (s.v a)) ∧ Kp ρ ρ' w w' := by
  have hbm : s.base = bs.map (·.r) ++ [t.r] := by rw [← h.fb, hbe]; simp
  have hs : s.ret (s.v (a : Int)) = { s with base := s.base.dropLast, top := { t.r with vars := t.r.vars.set s.top.into (s.v (a : Int)) } } := by simp [MS.ret, hbm]
  rw [hs]
  obtain ⟨fb, cap, hfv⟩ := h.frv_form
  obtain ⟨m, hm⟩ : ∃ m, m = G.bs.length + 1 := ⟨_, rfl⟩
  have hm1 : m ≠ 1 := by rw [hm, hbe]; simp
  rw [← hm] at hfv
  obtain ⟨into, hinto⟩ : ∃ i, i = s.top.into := ⟨_, rfl⟩
  rw [← hinto] at hin ⊢
  have HFV := Lib.hid hfv; have HM1 := Lib.hid hm1; have HIN := Lib.hid hin; have HINTO := Lib.hid hinto
  have hbl2 : bs.length ≤ 1000000 := by rw [hbe] at hbl; simp at hbl; omega
  have HBL2 := Lib.hid hbl2
  clear hfv hm hm1 hbm hs hin hinto hbl2
  have PR := Lib.hid (pre_ins h #[.int .u8 op, .int .i64 (v : Int), .int .i64 (a : Int), .int .i64 (b : Int), .int .i64 n, .int .u8 bin, av, .int .i64 (f : Int), .int .i64 (arr : Int), .int .i64 (jt : Int)])
  have Ha := Lib.hid (show (a : Int) < (s.top.vars.length : Int) by omega)
  obtain ⟨xa, hxa⟩ : ∃ x, x = s.v (a : Int) := ⟨_, rfl⟩
  have Va := Lib.hid (PR.out.r.vcell (a := a) ha)
  rw [← hxa] at Va ⊢
  clear hxa
  go_enter Tryz.func83, Tryz.ntmps83
  go_upto_region 1 with fail
  obtain ⟨W0, hW0⟩ : ∃ W0, W0 = w.alloc (.cells #[.int .u8 op, .int .i64 (v : Int), .int .i64 (a : Int), .int .i64 (b : Int), .int .i64 n, .int .u8 bin, av, .int .i64 (f : Int), .int .i64 (arr : Int), .int .i64 (jt : Int)] 71) := ⟨_, rfl⟩
  obtain ⟨bx, hbx⟩ : ∃ b, b = w.heap.size := ⟨_, rfl⟩
  rw [← hW0, ← hbx] at PR ⊢
  rw [← hW0] at Va
  clear hW0 hbx
  have POP := Lib.hid (pop_any PR.out.r hbe hbl)
  have HFT : Hid (frC G.t = [.string ⟨G.t.x.fn.name.toArray⟩, .int .i64 G.t.x.fn.params, .int .i64 G.t.x.fn.vars, G.t.x.cv, .int .i64 (G.t.r.f : Int), .int .i64 (G.t.r.i : Int), .slice (some ⟨G.t.b, 0, none⟩) G.t.r.vars.length G.t.r.vars.length, .int .i64 (into : Int)]) := Lib.hid (by rw [HINTO.out, ← PR.out.r.ft]; rfl)
  have c5 := PR.out.r.frvc HFV.out
  have lr := PR.out.r.run.lt
  have q1 : ((m : Int) == 1) = false := by have := HM1.out; simp; omega
  have q1' : ¬ m = 1 := HM1.out
  clear hbe hbl
  go_wp2_with fail
  refine POP.out.mono ?_
  rintro e w1 ⟨rfl, ⟨G', hr', hn', hgp', ht', hbs', hR⟩, hk, hfar⟩
  have R1 := Lib.hid hR; have K1 := Lib.hid (PR.out.kp.trans hk)
  have BX := Lib.hid (show Blk w1 bx 71 #[.int .u8 op, .int .i64 (v : Int), .int .i64 (a : Int), .int .i64 (b : Int), .int .i64 n, .int .u8 bin, av, .int .i64 (f : Int), .int .i64 (arr : Int), .int .i64 (jt : Int)] from (hfar bx PR.out.box.lt (fun e => by have := PR.out.no; rw [e, PR.out.r.runr] at this; cases this)).trans PR.out.box)
  have VA := Lib.hid (show w1.cell? ⟨G.t.b, a, none⟩ = some (.int .i64 xa) by
    rw [World.cell?_of_block (w := W0) (hfar G.t.b PR.out.r.vblk.lt (fun e => by have := (PR.out.r.fr _ _ G.fs_at).2.2; rw [e, PR.out.r.runr] at this; cases this))]
    exact Va.out)
  have HR' := Lib.hid hr'; have HN' := Lib.hid hn'; have HGP' := Lib.hid hgp'; have HT' := Lib.hid ht'; have HBS' := Lib.hid hbs'
  rw [HFT.out]
  have fld : ∀ (x0 x1 x2 x3 x4 x5 x6 : Value) (k : Int) (W : World), (Instr.field 119 (.agg #[x0, x1, x2, x3, x4, x5, x6, .int .i64 k]) 4).run Tryz.prog W = .ok (.int .i64 k) W := fun _ _ _ _ _ _ _ _ _ => by kernel_rfl
  clear hR hk hfar PR Va POP c5 lr q1 q1' hr' hn' hgp' ht' hbs' HFV HFT
  go_upto_region 4 with fail
  have HSL : Hid (∀ W, Below w1.heap.size w1 W → Calls Tryz.prog 71 #[.pointer (some ⟨G.r, 5, none⟩)] W fun e w' => ∃ fb2, e = .returned (.pointer (some ⟨fb2, bs.length * 8, none⟩)) ∧ (∃ c2, G'.frv = .slice (some ⟨fb2, 0, none⟩) (bs.length + 1) c2) ∧ Below W.heap.size W w') := Lib.hid (fun W hW => by
    obtain ⟨fb2, c2, hv2⟩ := R1.out.frv_form
    rw [HBS'.out] at hv2
    have h5 := (R1.out.below hW).frvc hv2
    rw [HR'.out] at h5
    exact (top_any G.r fb2 bs.length (bs.length + 1) c2 W h5 rfl HBL2.out).mono fun e w2 ⟨h1, h2⟩ => ⟨fb2, h1, ⟨c2, hv2⟩, h2⟩)
  refine wp_region_float [some (none, .pointer (some ⟨G.r, 0, none⟩)), some (none, .pointer (some ⟨G.r, 0, none⟩)), some (none, .pointer (some ⟨G.r, 5, none⟩)), none, none, none, none, some (none, .int .i64 (into : Int)), some (none, .slice (some ⟨G.t.b, 0, none⟩) s.top.vars.length s.top.vars.length), some (none, .pointer (some ⟨bx, 2, none⟩)), some (none, .int .i64 (a : Int)), some (none, .pointer (some ⟨G.t.b, a, none⟩)), some (none, .int .i64 xa), none, none] (fun W => Below w1.heap.size w1 W) 6 mixedT (fun _ a a2 _ hd h => by cases a; cases a2; cases hd; exact h) (by kernel_rfl) (fun _ _ h => h) ?_
  intro FF AA Wd hA hF hWh hWd
  have hL : HasL FF [(0, .pointer (some ⟨G.r, 0, none⟩)), (2, .slice (some ⟨G.t.b, 0, none⟩) s.top.vars.length s.top.vars.length), (4, .pointer (some ⟨bx, 0, none⟩)), (6, .int .i64 (into : Int)), (25, .pointer (some ⟨G.r, 0, none⟩)), (26, .pointer (some ⟨G.r, 0, none⟩)), (27, .pointer (some ⟨G.r, 5, none⟩)), (32, .int .i64 (into : Int)), (33, .slice (some ⟨G.t.b, 0, none⟩) s.top.vars.length s.top.vars.length), (34, .pointer (some ⟨bx, 2, none⟩)), (35, .int .i64 (a : Int)), (36, .pointer (some ⟨G.t.b, a, none⟩)), (37, .int .i64 xa)] := by unfold HasL; rw [hF, hA]; kernel_rfl
  have HF := Lib.hid hF; clear hF; have HA := Lib.hid hA; clear hA
  refine ⟨?_, ?_⟩
  · intro Z hZ
    repeat clear ‹∀ (a : Act) (w : World), Code.wp Tryz.prog _ _ a w → _›
    have gff := gd_ff
    have gtt := gd_tt
    exact
    ResF.cons (FlRes.val (by have a0 := hL.at 0 rfl; go_simp)) (
    ResF.cons (FlRes.val (by have a25 := hL.at 4 rfl; go_simp)) (
    ResF.cons (FlRes.val (by have a26 := hL.at 5 rfl; go_simp)) (
    ResF.pass (
    ResF.pass (
    ResF.pass (
    ResF.pass (
    ResF.cons (FlRes.val (by have a6 := hL.at 3 rfl; go_simp)) (
    ResF.cons (FlRes.val (by have a2 := hL.at 1 rfl; go_simp)) (
    ResF.cons (FlRes.val (by have a4 := hL.at 2 rfl; go_simp)) (
    ResF.cons (FlRes.val (by have a34 := hL.at 9 rfl; have kk := get_b hZ (BX.out.cell 2); go_simp)) (
    ResF.cons (FlRes.val (by have a33 := hL.at 8 rfl; have a35 := hL.at 10 rfl; have hi0 := Ha.out; go_simp)) (
    ResF.cons (FlRes.val (by have a36 := hL.at 11 rfl; have kk := get_b hZ VA.out; go_simp)) (
    ResF.pass (
    ResF.pass (
    ResF.nil)))))))))))))))
  clear hL
  obtain ⟨gf, hFF⟩ : ∃ gf : Nat → Value, FF = putL [(25, gf 25), (26, gf 26), (27, .pointer (some ⟨G.r, 5, none⟩)), (32, .int .i64 (into : Int)), (33, gf 33), (34, gf 34), (35, gf 35), (36, gf 36), (37, .int .i64 xa)] AA := ⟨fun k => FF.tmps.getD k undef, by rw [HF.out, HA.out]; kernel_rfl⟩
  clear HF
  rw [HA.out] at hFF; clear HA
  simp only [putL, Act.put, List.setIfInBounds_toArray, List.set_cons_zero, List.set_cons_succ] at hFF
  subst hFF
  refine wpAnyS_one 3 rfl (by kernel_rfl) (fun KK hK => ?_)
  go_simp
  refine (HSL.out Wd hWd).mono ?_
  rintro e w2 ⟨fb2, rfl, ⟨c2, hv2⟩, hb2⟩
  go_simp
  have hbw := hWd.trans (hb2.mono hWd.size)
  have R2 := Lib.hid (R1.out.below hbw)
  have K2 := Lib.hid (K1.out.trans (Kp.of_below hbw))
  have HV2 := Lib.hid hv2
  refine hK.out _ _ (Or.inl hbw) ?_
  clear hK hv2
  refine wpAnyS_one 4 rfl (by kernel_rfl) (fun KK hK => ?_)
  go_simp
  refine hK.out _ _ (Or.inl hbw) ?_
  clear hK
  refine wpAnyS_one 5 rfl (by kernel_rfl) (fun KK hK => ?_)
  go_simp
  refine hK.out _ _ (Or.inl hbw) ?_
  clear hK
  have k6 : w2.cell? ⟨fb2, bs.length * 8 + 6, none⟩ = some (.slice (some ⟨t.b, 0, none⟩) t.r.vars.length t.r.vars.length) := by
    have := frame_cell R2.out HV2.out 6 (by decide)
    rw [HBS'.out, HT'.out] at this
    exact this
  have l6 := cell_lt' k6
  refine wpAnyS_one 6 rfl (by kernel_rfl) (fun KK hK => ?_)
  go_simp
  refine hK.out _ _ (Or.inl hbw) ?_
  clear hK k6 l6
  have hin0 : (into : Int) < (t.r.vars.length : Int) := by have := HIN.out; omega
  refine wpAnyS_one 13 rfl (by kernel_rfl) (fun KK hK => ?_)
  go_simp
  refine hK.out _ _ (Or.inl hbw) ?_
  clear hK
  have T2 := Lib.hid (R2.out.fr _ _ (RG.fs_at G'))
  have HB3 : Blk w2 t.b 2 (intsC t.r.vars) := by have := T2.out.2.1; rw [HT'.out] at this; exact this
  have kv := HB3.cell into
  have kv2 : (intsC t.r.vars)[into]? = some (.int .i64 (t.r.vars.getD into 0)) := by
    unfold intsC
    rw [List.getElem?_toArray, List.getElem?_map, List.getD_eq_getElem?_getD, List.getElem?_eq_getElem HIN.out]; rfl
  rw [kv2] at kv
  have fv := HB3.free into
  have lv := HB3.lt
  clear kv2 HB3
  refine wpAnyS_one 14 rfl (by kernel_rfl) (fun KK hK => ?_)
  go_simp
  refine hK.out _ _ (Or.inr (by kernel_rfl)) ?_
  clear hK
  refine wpAnyS_end (by kernel_rfl) ?_
  go_end0
  have RF := R2.out.putVar into xa
  have KF := K2.out.trans (Kp.set (a := ⟨G'.t.b, into, none⟩) T2.out.2.2 (.int .i64 xa))
  rw [HT'.out] at RF KF
  have RQ : Runs _ ρ G'.r G'.n0 G'.gp _ := RF.runs
  rw [HR'.out, HN'.out, HGP'.out] at RQ
  exact ⟨rfl, ρ, RQ, KF⟩
end Go.Proofs.YtgdibfnpkcdiiaaGreatDoor

/- A function is begun. By an AI agent. -/
namespace Go.Proofs.YtgdibfnpkcdiiaaGreatDoor
open Go.RowKit

theorem made_ints (n : Nat) : madeCells (Value.int .i64 0).cells n = intsC (List.replicate n 0) := by
  apply Array.ext
  · simp [madeCells, intsC]
  · intro i h1 h2
    simp [madeCells, intsC, Value.cells, Nat.mod_one]
theorem info2M : (Tryz.prog.info? 2).map (fun i => (i.zero, i.size, i.bytes)) = some (some (.int .i64 0), 1, 8) := by kernel_rfl
theorem info2S : (Tryz.prog.info? 2).map (·.size) = some 1 := by kernel_rfl
theorem make_ints (n : Nat) (h : n ≤ 1000000) (W : World) : (Instr.makeSlice 40 (.int .i64 (n : Int)) (.int .i64 (n : Int))).run Tryz.prog W = .ok (.slice (some ⟨W.heap.size, 0, none⟩) n n) (W.alloc (.cells (intsC (List.replicate n 0)) 2)) := by
  obtain ⟨i0, hi0, hz0, hz1, hz2⟩ := info_parts info2M
  have := run_makeSlice (P := Tryz.prog) W 40 2 i0 (.int .i64 0) Tryz.underlying40 hi0 hz0 .i64 .i64 (n : Int) (n : Int) (by omega) (Int.le_refl _) (by rw [hz1, Int.toNat_natCast]; omega) (by rw [hz2]; omega) (by omega)
  rw [this, Int.toNat_natCast, hz1, Nat.mul_one, made_ints]
theorem args_splice (ks : List Int) (n : Nat) (h : ks.length ≤ n) : (splice (intsC (List.replicate n 0)).toList 0 (ks.map fun k => Value.int .i64 k)).toArray = intsC (argsM (n : Int) ks) := by
  unfold splice intsC argsM
  simp only [List.take_zero, List.nil_append, Nat.zero_add, List.length_map, Int.toNat_natCast, List.map_replicate, List.drop_replicate]
  rw [List.take_append, List.take_of_length_le h, List.take_replicate, List.map_append, List.map_replicate]
  congr 3
  omega
/-- The last frame, as it is pushed. -/
def newFr (x : FnG) (f into : Nat) (vs : List Int) (vb : Nat) : FrG := ⟨x, ⟨f, 0, vs, into⟩, vb⟩
set_option maxRecDepth 100000 in
set_option maxHeartbeats 16000000 in
theorem enter_raw (r n0 m cap : Nat) (A : Option Addr) (cs : Array Value) (xs : List Value) (f into nf cf nv : Nat) (F : Option Addr) (x : FnG) (asv : Value) (args : List Int) (w : World) (own : w.ownsRow n0 119 8 (.slice A m cap) m xs) (hb : Blk w r 113 cs) (h5 : cs[5]? = some (.slice A m cap)) (h1 : cs[1]? = some (.slice F nf cf)) (hA : ∀ k, (Value.slice A m cap).ownBlock = some k → k ≠ r) (hm : m ≤ 1000000) (hn0 : n0 ≤ w.heap.size)
    (hx : ∃ b o, F = some ⟨b, o, none⟩ ∧ fnAt w b (o + f * 4) x) (hf : f < nf) (hv : x.fn.vars = (nv : Int)) (hnv : nv ≤ 1000) (ha : IntsV w asv args) (hal : args.length ≤ nv) :
    Calls Tryz.prog 69 #[.pointer (some ⟨r, 0, none⟩), .int .i64 (f : Int), .int .i64 (into : Int), asv] w fun e w' => e = .returned (.tuple #[]) ∧ ∃ W1 vb g cap1 w1, Below w.heap.size w W1 ∧ w.heap.size ≤ vb ∧ vb < W1.heap.size ∧ Blk W1 vb 2 (intsC (argsM (nv : Int) args)) ∧ W1.grownBy w1 (Value.slice A m cap).ownBlock ∧ w1.ownsRow n0 119 8 (.slice (some ⟨g, 0, none⟩) (m + 1) cap1) (m + 1) (xs ++ frC (newFr x f into (argsM (nv : Int) args) vb)) ∧ ((Value.slice A m cap).ownBlock = some g ∨ g = W1.heap.size) ∧ w' = w1.setCell ⟨r, 5, none⟩ (.slice (some ⟨g, 0, none⟩) (m + 1) cap1) := by
  obtain ⟨CA, cn, cc, hcv⟩ : ∃ A n c, x.cv = .slice A n c := by
    obtain ⟨b, o, _, hx⟩ := hx
    obtain ⟨A2, c2, e2, _⟩ := hx.code
    exact ⟨_, _, _, e2⟩
  obtain ⟨fb, fo, hF, hx⟩ := hx
  subst hF
  obtain ⟨AA, ca, hasv, _, har⟩ := ha
  subst hasv
  have HX0 := Lib.hid hx.c0; have HX1 := Lib.hid hx.c1
  have HX2 := Lib.hid (show w.cell? ⟨fb, fo + f * 4 + 2, none⟩ = some (.int .i64 (nv : Int)) by rw [← hv]; exact hx.c2)
  have HX3 := Lib.hid (show w.cell? ⟨fb, fo + f * 4 + 3, none⟩ = some (.slice CA cn cc) by rw [← hcv]; exact hx.c3)
  have C1 := Lib.hid ((hb.cell 1).trans h1)
  have HFN := Lib.hid (show (f : Int) < (nf : Int) by omega)
  have HOWN := Lib.hid own; have HB := Lib.hid hb; have H5 := Lib.hid h5; have HA := Lib.hid hA; have HM := Lib.hid hm; have HN0 := Lib.hid hn0; have HV := Lib.hid hv; have HNV := Lib.hid hnv; have HAR := Lib.hid har; have HAL := Lib.hid hal; have HCV := Lib.hid hcv
  obtain ⟨na, hna⟩ : ∃ n, n = args.length := ⟨_, rfl⟩
  rw [← hna]
  have HNA := Lib.hid hna
  clear own hb h5 h1 hA hm hn0 hx hf hv hnv har hal hcv hna
  have x0 := HX0.out; have x1 := HX1.out; have x2 := HX2.out; have x3 := HX3.out; have c1 := C1.out; have lr := HB.out.lt; have lf := cell_lt' x0; have hfn := HFN.out
  go_enter Tryz.func69, Tryz.ntmps69
  go_upto_region 1 with fail
  clear x0 x1 x2 x3 c1 lr lf hfn
  obtain ⟨W0, hW0⟩ : ∃ W0, W0 = w.alloc (.cells #[.string ⟨x.fn.name.toArray⟩, .int .i64 x.fn.params, .int .i64 (nv : Int), .slice CA cn cc] 67) := ⟨_, rfl⟩
  obtain ⟨xb, hxb⟩ : ∃ b, b = w.heap.size := ⟨_, rfl⟩
  have HB0 := Lib.hid (show Below w.heap.size w W0 by rw [hW0]; exact (Below.refl _ _).alloc (Nat.le_refl _) _)
  have XB := Lib.hid (show Blk W0 xb 67 #[.string ⟨x.fn.name.toArray⟩, .int .i64 x.fn.params, .int .i64 (nv : Int), .slice CA cn cc] by rw [hW0, hxb]; exact Blk.new w 67 _)
  rw [← hW0, ← hxb]
  clear hW0 hxb
  have k2 := XB.out.cell 2
  have lx := XB.out.lt
  have hmk := make_ints nv (by have := HNV.out; omega)
  go_upto_region 2 with fail
  clear k2 lx hmk
  obtain ⟨W1, hW1⟩ : ∃ W1, W1 = W0.alloc (.cells (intsC (List.replicate nv 0)) 2) := ⟨_, rfl⟩
  obtain ⟨vb, hvb⟩ : ∃ b, b = W0.heap.size := ⟨_, rfl⟩
  have HB1 := Lib.hid (show Below w.heap.size w W1 by rw [hW1]; exact HB0.out.alloc HB0.out.size _)
  have XB1 := Lib.hid (show Blk W1 xb 67 #[.string ⟨x.fn.name.toArray⟩, .int .i64 x.fn.params, .int .i64 (nv : Int), .slice CA cn cc] by rw [hW1]; exact XB.out.alloc _)
  have VB := Lib.hid (show Blk W1 vb 2 (intsC (List.replicate nv 0)) by rw [hW1, hvb]; exact Blk.new W0 2 _)
  have HVW := Lib.hid (show w.heap.size ≤ vb by rw [hvb]; exact HB0.out.size)
  have HXV := Lib.hid (show xb < vb by rw [hvb]; exact XB.out.lt)
  rw [← hW1, ← hvb]
  clear hW1 hvb
  go_wp2_with (refine wpList_copy_splice (o := ⟨some 23, _, _, _, _, _⟩) rfl (.tmp 21) (.tmp 22) 40 40 rfl 2 Tryz.underlying40 info2S (some ⟨vb, 0, none⟩) AA nv nv na ca rfl rfl vb 0 (intsC (List.replicate nv 0)).toList 2 VB.out (args.map fun k => Value.int .i64 k) (by rw [List.length_map]; have := HNA.out; have := HAL.out; show _ = min na nv; omega) (fun hp => ⟨rfl, ?_⟩) (by have := HAL.out; simp [intsC]; omega) (by simp [Value.oneCell']) vb W1 (Below.refl _ _) (Nat.le_refl _) ?_)
  · rcases HAR.out with e | ⟨b, o, e, hc⟩
    · rw [e] at hp; simp at hp
    · refine ⟨⟨b, o, none⟩, e, fun j v hj => ?_⟩
      rw [List.getElem?_map] at hj
      cases hk : args[j]? with
      | none => rw [hk] at hj; cases hj
      | some k =>
        rw [hk] at hj; simp at hj; subst hj
        have := get_b (HB1.out) (hc j k hk)
        rw [Nat.mul_one] at this
        have hadd : (⟨b, o, none⟩ : Addr).add j = ⟨b, o + j, none⟩ := by unfold Addr.add; split <;> simp_all
        rw [hadd]; exact this
  intro W2 hg2 hb2
  have VB2 := Lib.hid (show Blk W2 vb 2 (intsC (argsM (nv : Int) args)) by rw [← args_splice args nv HAL.out]; exact hg2.out)
  have HB2 := Lib.hid (show Below w.heap.size w W2 from HB1.out.trans (hb2.mono HVW.out))
  have XB2 := Lib.hid (show Blk W2 xb 67 #[.string ⟨x.fn.name.toArray⟩, .int .i64 x.fn.params, .int .i64 (nv : Int), .slice CA cn cc] from (hb2.block xb HXV.out).trans XB1.out)
  clear hg2 hb2 VB XB XB1 HB1 HB0
  go_upto_region 3 with fail
  refine wp_region_float [some (none, .pointer (some ⟨r, 0, none⟩)), some (none, .pointer (some ⟨r, 0, none⟩)), some (none, .pointer (some ⟨r, 5, none⟩)), some (none, .agg #[.string ⟨x.fn.name.toArray⟩, .int .i64 x.fn.params, .int .i64 (nv : Int), .slice CA cn cc]), some (none, .int .i64 (f : Int)), some (none, .slice (some ⟨vb, 0, none⟩) nv nv), some (none, .int .i64 (into : Int)), some (none, .agg #[.string ⟨x.fn.name.toArray⟩, .int .i64 x.fn.params, .int .i64 (nv : Int), .slice CA cn cc, .int .i64 (f : Int), .int .i64 0, .slice (some ⟨vb, 0, none⟩) nv nv, .int .i64 (into : Int)]), none] (fun W => Below W2.heap.size W2 W) 1 mixedT (fun _ a a2 _ hd h => by cases a; cases a2; cases hd; exact h) (by kernel_rfl) (fun _ _ h => h) ?_
  intro FF AA Wd hA hF hWh hWd
  have hL : HasL FF [(0, .pointer (some ⟨r, 0, none⟩)), (1, .int .i64 (f : Int)), (2, .int .i64 (into : Int)), (8, .pointer (some ⟨xb, 0, none⟩)), (9, .slice (some ⟨vb, 0, none⟩) nv nv), (24, .pointer (some ⟨r, 0, none⟩)), (25, .pointer (some ⟨r, 0, none⟩)), (26, .pointer (some ⟨r, 5, none⟩)), (27, .agg #[.string ⟨x.fn.name.toArray⟩, .int .i64 x.fn.params, .int .i64 (nv : Int), .slice CA cn cc]), (28, .int .i64 (f : Int)), (29, .slice (some ⟨vb, 0, none⟩) nv nv), (30, .int .i64 (into : Int)), (31, .agg #[.string ⟨x.fn.name.toArray⟩, .int .i64 x.fn.params, .int .i64 (nv : Int), .slice CA cn cc, .int .i64 (f : Int), .int .i64 0, .slice (some ⟨vb, 0, none⟩) nv nv, .int .i64 (into : Int)])] := by unfold HasL; rw [hF, hA]; kernel_rfl
  have HF := Lib.hid hF; clear hF; have HA := Lib.hid hA; clear hA
  refine ⟨?_, ?_⟩
  · intro Z hZ
    repeat clear ‹∀ (a : Act) (w : World), Code.wp Tryz.prog _ _ a w → _›
    have gff := gd_ff
    have gtt := gd_tt
    exact
    ResF.cons (FlRes.val (by have a0 := hL.at 0 rfl; go_simp)) (
    ResF.cons (FlRes.val (by have a24 := hL.at 5 rfl; go_simp)) (
    ResF.cons (FlRes.val (by have a25 := hL.at 6 rfl; go_simp)) (
    ResF.cons (FlRes.val (by have a8 := hL.at 3 rfl; have k0 := get_b hZ (XB2.out.cell 0); have k1 := get_b hZ (XB2.out.cell 1); have k2 := get_b hZ (XB2.out.cell 2); have k3 := get_b hZ (XB2.out.cell 3); go_simp)) (
    ResF.cons (FlRes.val (by have a1 := hL.at 1 rfl; go_simp)) (
    ResF.cons (FlRes.val (by have a9 := hL.at 4 rfl; go_simp)) (
    ResF.cons (FlRes.val (by have a2 := hL.at 2 rfl; go_simp)) (
    ResF.cons (FlRes.val (by have a27 := hL.at 8 rfl; have a28 := hL.at 9 rfl; have a29 := hL.at 10 rfl; have a30 := hL.at 11 rfl; go_simp)) (
    ResF.pass (
    ResF.nil)))))))))
  clear hL
  obtain ⟨gf, hFF⟩ : ∃ gf : Nat → Value, FF = putL [(24, gf 24), (25, gf 25), (26, .pointer (some ⟨r, 5, none⟩)), (27, gf 27), (28, gf 28), (29, gf 29), (30, gf 30), (31, .agg #[.string ⟨x.fn.name.toArray⟩, .int .i64 x.fn.params, .int .i64 (nv : Int), .slice CA cn cc, .int .i64 (f : Int), .int .i64 0, .slice (some ⟨vb, 0, none⟩) nv nv, .int .i64 (into : Int)])] AA := ⟨fun k => FF.tmps.getD k undef, by rw [HF.out, HA.out]; kernel_rfl⟩
  clear HF
  rw [HA.out] at hFF; clear HA
  simp only [putL, Act.put, List.setIfInBounds_toArray, List.set_cons_zero, List.set_cons_succ] at hFF
  subst hFF
  refine wpAnyS_one 8 rfl (by kernel_rfl) (fun KK hK => ?_)
  have HBW := Lib.hid (HB2.out.trans (hWd.mono HB2.out.size))
  have PUSH := Lib.hid (push_raw r n0 m cap A cs xs ⟨x.fn.name.toArray⟩ x.fn.params nv f 0 into (.slice CA cn cc) (.slice (some ⟨vb, 0, none⟩) nv nv) Wd (ownM HOWN.out HBW.out) (HB.out.below HBW.out) H5.out HA.out HM.out (Nat.le_trans HN0.out HBW.out.size) rfl rfl)
  go_simp
  refine PUSH.out.mono ?_
  rintro e w' ⟨rfl, W3, g, cap1, w3, hb3, hgr, hown, hat, rfl⟩
  have HB3 := Lib.hid (below_next HBW.out hb3); have HGR := Lib.hid hgr; have HO3 := Lib.hid hown; have HAT := Lib.hid hat
  have VB3 := Lib.hid ((VB2.out.below hWd).below hb3)
  clear hb3 hgr hown hat
  go_simp
  refine hK.out _ _ (Or.inr (by kernel_rfl)) ?_
  clear hK
  refine wpAnyS_end (by kernel_rfl) ?_
  go_end0
  have hln : (argsM (nv : Int) args).length = nv := by rw [args_len]; simp
  have hfr : frC (newFr x f into (argsM (nv : Int) args) vb) = [.string ⟨x.fn.name.toArray⟩, .int .i64 x.fn.params, .int .i64 (nv : Int), .slice CA cn cc, .int .i64 (f : Int), .int .i64 0, .slice (some ⟨vb, 0, none⟩) nv nv, .int .i64 (into : Int)] := by
    simp only [frC, newFr, hln, HV.out, HCV.out]; rfl
  exact ⟨rfl, W3, vb, g, cap1, w3, HB3.out, HVW.out, VB3.out.lt, VB3.out, HGR.out, by rw [hfr]; exact HO3.out, HAT.out, rfl⟩
end Go.Proofs.YtgdibfnpkcdiiaaGreatDoor

/- A function is called. By an AI agent. -/
namespace Go.Proofs.YtgdibfnpkcdiiaaGreatDoor
open Go.RowKit

theorem fns_of {w : World} {gp : PrG} (h : PrR w gp) {f : Nat} {x : FnG} (hx : gp.l[f]? = some x) : gp.p.fns[f]? = some x.fn := by
  rw [← h.eq, List.getElem?_map, hx]; rfl
theorem enter_any {w : World} {ρ : Nat → Option Role} {G : RG} {s : MS} (h : RunR w ρ G s) (f into nv : Nat) (x : FnG) (asv : Value) (args : List Int) (hx : G.gp.l[f]? = some x) (hv : x.fn.vars = (nv : Int)) (hnv : nv ≤ 1000) (ha : IntsV w asv args) (hal : args.length ≤ nv) (hbl : G.bs.length ≤ 900000) :
    Calls Tryz.prog 69 #[.pointer (some ⟨G.r, 0, none⟩), .int .i64 (f : Int), .int .i64 (into : Int), asv] w fun e w' => e = .returned (.tuple #[]) ∧ ∃ ρ', Runs w' ρ' G.r G.n0 G.gp (s.enter G.gp.p f into args) ∧ Kp ρ ρ' w w' := by
  obtain ⟨fb, cap, hfv⟩ := h.frv_form
  have hfl : G.fs.length = G.bs.length + 1 := by simp [RG.fs]
  have hfow := h.frow
  rw [hfl, hfv] at hfow
  obtain ⟨F, cf, hF, hcf, hfr⟩ := h.pr.fns
  have hfx : ∃ b o, F = some ⟨b, o, none⟩ ∧ fnAt w b (o + f * 4) x := by
    rcases hfr with e | ⟨b, o, e, hr⟩
    · rw [e] at hx; simp at hx
    · exact ⟨b, o, e, hr f x hx⟩
  have hfn : f < G.gp.l.length := (List.getElem?_eq_some_iff.1 hx).1
  refine (enter_raw G.r G.n0 (G.bs.length + 1) cap (some ⟨fb, 0, none⟩) (G.cells s) (G.fs.flatMap frC) f into G.gp.l.length cf nv F x asv args w hfow h.run (by simp [RG.cells, hfv]) (by simp [RG.cells, hF]) (fun k e c => by have := h.frowr k (by rw [hfv]; exact e); rw [c, h.runr] at this; cases this) (by omega) h.n0 hfx hfn hv hnv ha hal).mono ?_
  rintro e w' ⟨rfl, W1, vb, g, cap1, w1, hb, hvb, hvl, hblk, hgr, hown, hat, rfl⟩
  have hln : (argsM (nv : Int) args).length = nv := by rw [args_len]; simp
  have R1 := h.below hb
  have R2 := R1.adopt (.var (G.bs.length + 1)) (h.free hvb) (Nat.le_trans h.n0 hvb) hvl
  rw [← hfv] at hgr hat
  rw [← hfl] at hown
  have R3 := R2.frApp (newFr x f into (argsM (nv : Int) args) vb) hx hblk role_self hown hgr hat
  rw [hfl] at R3
  have hs : s.enter G.gp.p f into args = { s with base := s.base ++ [s.top], top := ⟨f, 0, argsM (nv : Int) args, into⟩ } := by
    unfold MS.enter varsM
    rw [Int.toNat_natCast, Int.toNat_natCast, fns_of h.pr hx]
    simp [hv]
  rw [hs]
  refine ⟨rfl, _, R3.runs, (show Kp ρ (roleSet ρ vb (.var (G.bs.length + 1))) w W1 from ⟨hb.os, hb.tape, hb.output, hb.size, fun k hk _ => hb.block k hk, fun k hk hr => ?_⟩).trans (kp_grown R2 hgr .frow R2.frowr hat 5 _)⟩
  unfold roleSet
  rw [if_neg (by omega)]; exact hr

set_option maxRecDepth 100000 in
set_option maxHeartbeats 8000000 in
theorem call_any {w : World} {ρ : Nat → Option Role} {G : RG} {s : MS} (h : RunR w ρ G s) (op bin v a b f arr jt : Nat) (n : Int) (av : Value) {nf : Nat} {x : FnG} {args : List Int} (hx : G.gp.l[f]? = some x) (hnf : x.fn.vars = (nf : Int)) (hnfb : nf ≤ 1000) (hargs : ∀ w1, Below w.heap.size w w1 → IntsV w1 av args) (har : ∀ k ∈ args, 0 ≤ k ∧ k < (s.top.vars.length : Int)) (hal : args.length ≤ nf) (hbl : G.bs.length ≤ 900000) :
    Calls Tryz.prog 82 #[.pointer (some ⟨G.r, 0, none⟩), .agg #[.int .u8 op, .int .i64 (v : Int), .int .i64 (a : Int), .int .i64 (b : Int), .int .i64 n, .int .u8 bin, av, .int .i64 (f : Int), .int .i64 (arr : Int), .int .i64 (jt : Int)], .slice (some ⟨G.t.b, 0, none⟩) s.top.vars.length s.top.vars.length] w fun e w' => e = .returned (.tuple #[]) ∧ ∃ ρ', Runs w' ρ' G.r G.n0 G.gp (s.enter G.gp.p f v (args.map s.v)) ∧ Kp ρ ρ' w w' := by
  obtain ⟨A, ca, hav, _, _⟩ := hargs w (Below.refl _ _)
  obtain ⟨na, hna⟩ : ∃ n, n = args.length := ⟨_, rfl⟩
  rw [← hna] at hav
  subst hav
  obtain ⟨fx, hfx⟩ : ∃ f2 : Nat → List Int, ∀ k, f2 k = (args.take k).map s.v := ⟨_, fun _ => rfl⟩
  have hall : args.map s.v = fx na := by rw [hfx, List.take_of_length_le (by omega)]
  rw [hall]
  have HFX := Lib.hid hfx; have HX := Lib.hid hx; have HNF := Lib.hid hnf; have HARGS := Lib.hid hargs; have HAR := Lib.hid har; have HNA := Lib.hid hna
  have hnab : na ≤ 1000 := by omega
  have HAL := Lib.hid hal
  clear hfx hall hx hnf hargs har hna hal
  have PR := Lib.hid (pre_ins h #[.int .u8 op, .int .i64 (v : Int), .int .i64 (a : Int), .int .i64 (b : Int), .int .i64 n, .int .u8 bin, .slice A na ca, .int .i64 (f : Int), .int .i64 (arr : Int), .int .i64 (jt : Int)])
  go_enter Tryz.func82, Tryz.ntmps82
  go_upto_region 1 with fail
  obtain ⟨W0, hW0⟩ : ∃ W0, W0 = w.alloc (.cells #[.int .u8 op, .int .i64 (v : Int), .int .i64 (a : Int), .int .i64 (b : Int), .int .i64 n, .int .u8 bin, .slice A na ca, .int .i64 (f : Int), .int .i64 (arr : Int), .int .i64 (jt : Int)] 71) := ⟨_, rfl⟩
  obtain ⟨bx, hbx⟩ : ∃ b, b = w.heap.size := ⟨_, rfl⟩
  rw [← hW0, ← hbx] at PR ⊢

  have HBW := Lib.hid (show Below w.heap.size w W0 by rw [hW0]; exact (Below.refl _ _).alloc (Nat.le_refl _) _)
  clear hW0 hbx
  have k6 := PR.out.box.cell 6
  have lb := PR.out.box.lt
  go_wp2_with fail
  obtain ⟨i0, hi0, hz0, hz1, hz2⟩ := info_parts info2M
  go_loopg [6, 8, 12] na (fun gk v1 v2 v3 wr => ∃ i : Nat, i ≤ na ∧ na - i ≤ gk ∧ v3 = .int .i64 i ∧ Hid (wr.ownsRow W0.heap.size 2 1 v1 i ((fx i).map fun k => Value.int .i64 k)) ∧ Hid (Below W0.heap.size W0 wr))
  case atStart =>
    refine ⟨0, Nat.zero_le _, Nat.le_refl _, rfl, Lib.hid ?_, Lib.hid (Below.refl _ _)⟩
    rw [HFX.out]
    exact ⟨rfl, Or.inl ⟨rfl, rfl⟩⟩
  case round =>
    obtain ⟨i, hi, hgk, rfl, HO, HB⟩ := hrel
    have hbx := PR.out.box.below HB.out
    obtain ⟨V1, c1, hv1⟩ := own_formM HO.out
    subst hv1
    by_cases hlt : i < na
    case neg =>
      have q : decide ((i : Int) < (na : Int)) = false := decide_eq_false (by omega)
      have hin : i = na := by omega
      have k1 := hbx.cell 1; have k7 := hbx.cell 7
      have lb := hbx.lt
      have hfl : (fx na).length = na := by rw [HFX.out, List.length_map, List.length_take]; have := HNA.out; omega
      have HIV := Lib.hid (show IntsV wr (.slice V1 i c1) (fx na) by
        have ho := HO.out
        rw [hin] at ho
        rcases ho.2 with ⟨e, h0⟩ | ⟨g, cap, cur, e, _, hg, hn, _, hs, ht⟩
        · injection e with e1 e2 e3
          subst e1; subst e3
          refine ⟨none, 0, by rw [hfl, hin], by omega, Or.inl (List.eq_nil_of_length_eq_zero (by omega))⟩
        · injection e with e1 _ e3
          subst e1; subst e3
          refine ⟨_, c1, by rw [hfl, hin], by omega, Or.inr ⟨g, 0, rfl, fun j y hj => ?_⟩⟩
          have hjl := (List.getElem?_eq_some_iff.1 hj).1
          have := ho.cellAt j (by omega)
          rw [List.getElem?_map, hj] at this
          rw [Nat.mul_one, Nat.zero_add]
          exact this)
      have hal2 : (fx na).length ≤ nf := by rw [hfl]; have := HAL.out; have := HNA.out; omega
      have ENT := Lib.hid (enter_any (PR.out.r.below HB.out) f v nf x (.slice V1 i c1) (fx na) HX.out HNF.out hnfb HIV.out hal2 hbl)
      have KP := Lib.hid (PR.out.kp.trans (Kp.of_below HB.out))
      clear hbx hin hfl HIV hal2
      go_wp2_with fail
      refine ENT.out.mono ?_
      rintro e w1 ⟨rfl, ρ1, hr1, hk1⟩
      have RF := Lib.hid hr1; have KF := Lib.hid (KP.out.trans hk1)
      clear hr1 hk1 ENT KP
      go_wp2_with fail
      go_end0
      exact ⟨rfl, ρ1, RF.out, KF.out⟩
    case pos =>
      have q : decide ((i : Int) < (na : Int)) = true := decide_eq_true (by omega)
      have hii : (i : Int) < (na : Int) := by omega
      obtain ⟨y, hy⟩ : ∃ y, args[i]? = some y := ⟨_, List.getElem?_eq_getElem (by rw [← HNA.out]; exact hlt)⟩
      obtain ⟨hy0, hy1⟩ := HAR.out y (List.mem_of_getElem? hy)
      obtain ⟨yn, rfl⟩ := Int.eq_ofNat_of_zero_le hy0
      obtain ⟨ab, ao, hA, hat⟩ : ∃ b o, A = some ⟨b, o, none⟩ ∧ wr.cell? ⟨b, o + i * 1, none⟩ = some (.int .i64 (yn : Int)) := by
        obtain ⟨A2, c2, e2, _, h2⟩ := HARGS.out W0 HBW.out
        injection e2 with e3 _ _
        rcases h2 with e | ⟨b, o, e, hr⟩
        · rw [e] at hy; simp at hy
        · exact ⟨b, o, e3.trans e, get_b HB.out (hr i _ hy)⟩
      subst hA
      rw [Nat.mul_one] at hat
      have la := cell_lt' hat
      obtain ⟨z, hz⟩ : ∃ z, z = s.v (yn : Int) := ⟨_, rfl⟩
      have kv := get_b HB.out (PR.out.r.vcell (a := yn) (by omega))
      rw [← hz] at kv
      have lv := cell_lt' kv
      have HSN := Lib.hid (show (fx (i + 1)).map (fun k => Value.int .i64 k) = (fx i).map (fun k => Value.int .i64 k) ++ [.int .i64 z] by
        rw [HFX.out, HFX.out, List.take_add_one, hy, hz]; simp)
      clear hy hz hy0 hbx
      go_wp2_with (at_builtin; refine wpList_append_own _ rfl _ _ 40 rfl W0.heap.size 2 i0 (.int .i64 0) 1 8 Tryz.underlying40 hi0 hz0 hz1 hz2 rfl (by decide) _ _ _ rfl (HO.out.alloc _) ⟨wr.heap.size, 0, none⟩ 1 1 [.int .i64 z] rfl rfl (World.news_of_block (cs := #[.int .i64 z]) (t := 2) (fr := (0, 0)) (heap_alloc_new wr _)) (by simp [Value.oneCell']) (by unfold maxLen; omega) (by omega) ?_ ?_)
      · have := HB.out.size; simp; omega
      intro v' w6 hown6 hgrow _
      have HN6 := Lib.hid (HSN.out ▸ hown6)
      have HB6 := Lib.hid ((HB.out.alloc HB.out.size (.cells #[.int .i64 z] 2)).grown hgrow (by have := HB.out.size; simp; omega) (fun q e => (HO.out.lt q e).1))
      clear hown6 hgrow
      go_wp2_with fail
      cases gk with
      | zero => omega
      | succ gk =>
        go_roundg gk
        case measure => omega
        case rel => exact ⟨i + 1, by omega, by omega, by simp, HN6, HB6⟩
end Go.Proofs.YtgdibfnpkcdiiaaGreatDoor

/- Any instruction does in memory what the plain machine does. By an AI agent. -/
namespace Go.Proofs.YtgdibfnpkcdiiaaGreatDoor
open Go.RowKit

theorem fits_nn {h : Bool} {n m : Int} (k : fitsW h n m = true) : 0 ≤ n := by
  simp [fitsW] at k; exact k.1
theorem one_nn {p : PrW} {fn : FnP} {x : In} (h : oneW p fn x = true) : 0 ≤ x.v ∧ 0 ≤ x.a ∧ 0 ≤ x.b ∧ 0 ≤ x.f ∧ 0 ≤ x.arr ∧ 0 ≤ x.to := by
  simp only [oneW, Bool.and_eq_true, decide_eq_true_eq, List.all_eq_true] at h
  obtain ⟨⟨⟨⟨⟨⟨⟨h1, h2⟩, h3⟩, h4⟩, h5⟩, h6⟩, h7⟩, _⟩ := h
  exact ⟨fits_nn h2, fits_nn h3, fits_nn h4, fits_nn h5, fits_nn h6, fits_nn h7⟩
/-- What an instruction may rely on. -/
structure InsH (w : World) (G : RG) (s : MS) (fn : FnP) (x : InV) : Prop where
  one : oneW G.gp.p fn x.1 = true
  vars : (s.top.vars.length : Int) = fn.vars
  ints : ∀ k : Int, I64 (s.v k)
  evs : s.evs.length ≤ 1000000
  base : G.bs.length ≤ 900000
  arr : s.arr.map (·.length) = G.gp.p.arrays.map (·.toNat)
  good : PrGood G.gp.p
  into : IntoOk (s.base ++ [s.top])
  args : ∀ w1, Below w.heap.size w w1 → IntsV w1 x.2 x.1.args
set_option maxRecDepth 100000 in
set_option maxHeartbeats 4000000 in
theorem ins_any {w : World} {ρ : Nat → Option Role} {G : RG} {s : MS} (h : RunR w ρ G s) {fn : FnP} {x : InV} (H : InsH w G s fn x) :
    Calls Tryz.prog (71 + x.1.op) #[.pointer (some ⟨G.r, 0, none⟩), insV x, .slice (some ⟨G.t.b, 0, none⟩) s.top.vars.length s.top.vars.length] w fun e w' => e = .returned (.tuple #[]) ∧ ∃ ρ', Runs w' ρ' G.r G.n0 G.gp (doesM doW G.gp.p x.1 s) ∧ Kp ρ ρ' w w' := by
  obtain ⟨⟨op, v, a, b, n, bin, args, f, arr, jt⟩, av⟩ := x
  have one := one_ok H.one
  obtain ⟨nv, na, nb, nf, nr, nt⟩ := one_nn H.one
  dsimp only at nv na nb nf nr nt
  obtain ⟨v, rfl⟩ := Int.eq_ofNat_of_zero_le nv
  obtain ⟨a, rfl⟩ := Int.eq_ofNat_of_zero_le na
  obtain ⟨b, rfl⟩ := Int.eq_ofNat_of_zero_le nb
  obtain ⟨f, rfl⟩ := Int.eq_ofNat_of_zero_le nf
  obtain ⟨arr, rfl⟩ := Int.eq_ofNat_of_zero_le nr
  obtain ⟨jt, rfl⟩ := Int.eq_ofNat_of_zero_le nt
  have hvl := H.vars
  have hle := H.evs
  have hbl := H.base
  have hvv : hasV op = true → v < s.top.vars.length := fun e => by have := (one.v e).2; dsimp only at this; omega
  have haa : hasA op = true → a < s.top.vars.length := fun e => by have := (one.a e).2; dsimp only at this; omega
  have hbb : hasB op = true → b < s.top.vars.length := fun e => by have := (one.b e).2; dsimp only at this; omega
  have har : hasR op = true → ∃ bb l, G.ars[arr]? = some bb ∧ s.arr[arr]? = some l := fun e => by
    have h1 := (one.arr e).2
    dsimp only at h1
    have h2 := congrArg List.length H.arr
    simp only [List.length_map] at h2
    have h3 := h.al
    exact ⟨_, _, List.getElem?_eq_getElem (by omega), List.getElem?_eq_getElem (by omega)⟩
  have hcell : ∀ (l : List Int) (i : Int), s.arr[arr]? = some l → s.cell (arr : Int) i = if 0 ≤ i then l[i.toNat]? else none := fun l i e => by simp [MS.cell, e]
  have hop := one.op
  dsimp only at hop
  show Calls Tryz.prog (71 + op) _ w _
  have hcs : op = 1 ∨ op = 2 ∨ op = 3 ∨ op = 4 ∨ op = 5 ∨ op = 6 ∨ op = 7 ∨ op = 8 ∨ op = 9 ∨ op = 10 ∨ op = 11 ∨ op = 12 ∨ op = 13 ∨ op = 14 := by omega
  have key : ∀ (l : List Int) (i : Int), (i < 0 ∨ l.length ≤ i) ∨ ∃ k : Nat, i = (k : Int) ∧ k < l.length := fun l i => by
    by_cases h1 : i < 0 ∨ (l.length : Int) ≤ i
    · exact Or.inl h1
    · exact Or.inr ⟨i.toNat, by omega, by omega⟩
  have cno : ∀ (l : List Int) (i : Int), s.arr[arr]? = some l → (i < 0 ∨ (l.length : Int) ≤ i) → s.cell (arr : Int) i = none := fun l i e hi => by
    rw [hcell l i e]
    split
    · exact List.getElem?_eq_none (by omega)
    · rfl
  have cyes : ∀ (l : List Int) (k : Nat), s.arr[arr]? = some l → k < l.length → s.cell (arr : Int) (k : Int) = some (l.getD k 0) := fun l k e hk => by
    rw [hcell l k e, if_pos (by omega), Int.toNat_natCast, List.getD_eq_getElem?_getD, List.getElem?_eq_getElem hk]; rfl
  rcases hcs with rfl | rfl | rfl | rfl | rfl | rfl | rfl | rfl | rfl | rfl | rfl | rfl | rfl | rfl
  · rw [does_1 doW rfl]; exact number_any h 1 bin v a b f arr jt n av (hvv rfl)
  · rw [does_2 doW rfl]; exact copies_any h 2 bin v a b f arr jt n av (hvv rfl) (haa rfl)
  · rw [does_3 doW rfl]; exact bin_any h 3 bin v a b f arr jt n av (hvv rfl) (haa rfl) (hbb rfl) (one.bin rfl) (H.ints _)
  · rw [does_4 doW rfl]
    obtain ⟨bb, l, h1, h2⟩ := har rfl
    rcases key l (s.v (a : Int)) with hi | ⟨k, hk, hkl⟩
    · show Calls Tryz.prog 75 _ w fun e w' => e = .returned (.tuple #[]) ∧ ∃ ρ', Runs w' ρ' G.r G.n0 G.gp (match s.cell (arr : Int) (s.v (a : Int)) with | some n => s.put (v : Int) n | none => s.see 4 1) ∧ Kp ρ ρ' w w'
      rw [cno l _ h2 hi]
      exact load_no_any h 4 bin v a b f arr jt n av (haa rfl) h1 h2 hi hle
    · show Calls Tryz.prog 75 _ w fun e w' => e = .returned (.tuple #[]) ∧ ∃ ρ', Runs w' ρ' G.r G.n0 G.gp (match s.cell (arr : Int) (s.v (a : Int)) with | some n => s.put (v : Int) n | none => s.see 4 1) ∧ Kp ρ ρ' w w'
      have := cyes l k h2 hkl
      rw [← hk] at this
      rw [this]
      exact load_yes_any h 4 bin v a b f arr jt n av (hvv rfl) (haa rfl) h1 h2 hkl hk
  · rw [does_5 doW rfl]
    obtain ⟨bb, l, h1, h2⟩ := har rfl
    show Calls Tryz.prog 76 _ w fun e w' => e = .returned (.tuple #[]) ∧ ∃ ρ', Runs w' ρ' G.r G.n0 G.gp (match s.cell (arr : Int) (s.v (a : Int)) with | some _ => s.store (arr : Int) (s.v (a : Int)) (s.v (b : Int)) | none => s.see 4 1) ∧ Kp ρ ρ' w w'
    rcases key l (s.v (a : Int)) with hi | ⟨k, hk, hkl⟩
    · rw [cno l _ h2 hi]
      exact store_no_any h 5 bin v a b f arr jt n av (haa rfl) h1 h2 hi hle
    · have := cyes l k h2 hkl
      rw [← hk] at this
      rw [this]
      have := store_yes_any h 5 bin v a b f arr jt n av (hbb rfl) (haa rfl) h1 h2 hkl hk
      rw [← hk] at this
      exact this
  · rw [does_6 doW rfl]
    obtain ⟨bb, l, h1, h2⟩ := har rfl
    show Calls Tryz.prog 77 _ w fun e w' => e = .returned (.tuple #[]) ∧ ∃ ρ', Runs w' ρ' G.r G.n0 G.gp (match s.cell (arr : Int) (s.v (a : Int)) with | some _ => s | none => s.see 4 1) ∧ Kp ρ ρ' w w'
    rcases key l (s.v (a : Int)) with hi | ⟨k, hk, hkl⟩
    · rw [cno l _ h2 hi]
      exact bound_no_any h 6 bin v a b f arr jt n av (haa rfl) h1 h2 hi hle
    · have := cyes l k h2 hkl
      rw [← hk] at this
      rw [this]
      exact bound_yes_any h 6 bin v a b f arr jt n av (haa rfl) h1 h2 hkl hk
  · rw [does_7 doW rfl]
    show Calls Tryz.prog 78 _ w fun e w' => e = .returned (.tuple #[]) ∧ ∃ ρ', Runs w' ρ' G.r G.n0 G.gp (if s.v (a : Int) = 0 then s.see 4 2 else s) ∧ Kp ρ ρ' w w'
    by_cases h0 : s.v (a : Int) = 0
    · rw [if_pos h0]; exact zero_yes_any h 7 bin v a b f arr jt n av (haa rfl) h0 hle
    · rw [if_neg h0]; exact zero_no_any h 7 bin v a b f arr jt n av (haa rfl) h0 hle
  · rw [does_8 doW rfl]
    cases hin : s.inp with
    | nil => exact read_none_any h 8 bin v a b f arr jt n av (hvv rfl) hin hle
    | cons x0 rest => exact read_some_any h 8 bin v a b f arr jt n av (hvv rfl) hin hle
  · rw [does_9 doW rfl]; exact print_any h 9 bin v a b f arr jt n av (haa rfl) hle
  · rw [does_10 doW rfl]; exact exit_any h 10 bin v a b f arr jt n av (haa rfl) hle
  · rw [does_11 doW rfl]
    have hf := (one.f rfl).2
    dsimp only at hf
    have hfl : f < G.gp.l.length := by
      have := congrArg List.length h.pr.eq
      rw [List.length_map] at this; omega
    obtain ⟨xg, hxg⟩ : ∃ x, G.gp.l[f]? = some x := ⟨_, List.getElem?_eq_getElem hfl⟩
    have hfn := fns_of h.pr hxg
    have hgd := H.good.fns _ (List.mem_of_getElem? hfn)
    obtain ⟨nf2, hnf2⟩ := Int.eq_ofNat_of_zero_le (show 0 ≤ xg.fn.vars by have := hgd.params; omega)
    have hmany := one.many
    have hmw : manyW G.gp.p ⟨11, v, a, b, n, bin, args, f, arr, jt⟩ = xg.fn.params := by
      show ((G.gp.p.fns[((f : Nat) : Int).toNat]?).map (fun g : FnP => g.params)).getD 0 = _
      rw [Int.toNat_natCast, hfn]; rfl
    rw [hmw] at hmany
    dsimp only at hmany
    have hal : args.length ≤ nf2 := by have := hgd.params; omega
    exact call_any (args := args) h 11 bin v a b f arr jt n av hxg hnf2 (by have := hgd.params; omega) H.args (fun k hk => by have := one.args k hk; rw [hvl]; exact this) hal hbl
  · rw [does_12 doW rfl]
    rcases List.eq_nil_or_concat G.bs with hb | ⟨bs, t, hb⟩
    · exact ret_last_any h 12 bin v a b f arr jt n av (haa rfl) (by rw [← h.fb, hb]; rfl) hle
    · rw [List.concat_eq_append] at hb
      have hin : s.top.into < t.r.vars.length := by
        have hi := H.into
        rw [← h.fb, hb, List.map_append] at hi
        exact (into_less _ hi).2
      exact ret_more_any h 12 bin v a b f arr jt n av (haa rfl) hb hin (by omega)
  · rw [does_13 doW rfl]; exact jump_any h 13 bin v a b f arr jt n av (by omega)
  · rw [does_14 doW rfl]
    show Calls Tryz.prog 85 _ w fun e w' => e = .returned (.tuple #[]) ∧ ∃ ρ', Runs w' ρ' G.r G.n0 G.gp (if s.v (a : Int) = 0 then s.jump (jt : Int) else s) ∧ Kp ρ ρ' w w'
    by_cases h0 : s.v (a : Int) = 0
    · rw [if_pos h0]; exact unless_yes_any h 14 bin v a b f arr jt n av (haa rfl) h0 (by omega)
    · rw [if_neg h0]; exact unless_no_any h 14 bin v a b f arr jt n av (haa rfl) h0 (by omega)
end Go.Proofs.YtgdibfnpkcdiiaaGreatDoor
