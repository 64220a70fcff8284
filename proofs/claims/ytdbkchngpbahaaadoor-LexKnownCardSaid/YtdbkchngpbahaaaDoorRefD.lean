/- The walk over the reference's one at marks; the reference's one as a whole. By an AI agent. -/
import Derived.Test.YtdbkchngpbahaaaDoorRefC
import Derived.IntWalk
namespace Go.Proofs.YtdbkchngpbahaaaDoor
open Go.RowKit

set_option maxRecDepth 100000 in
set_option maxHeartbeats 16000000 in
theorem one_mark (s : ByteArray) (p : Nat) (w : World) (hp : p < s.size) (hs : s.size ≤ 1000000) (hlc : isLet s[p] = false) (hdc : isDig s[p] = false) :
    Calls Tryd.prog 24 #[.string s, .int .i64 p] w fun e w' => OneOut (s.data.toList.drop p) p e ∧ Below w.heap.size w w' := by
  have hd := drop_byte s p hp
  generalize hch : s[p]'hp = c at *
  have HD := Lib.hid hd
  have HC := Lib.hid hlc
  have HDC := Lib.hid hdc
  have HOUT : Hid (tokAt (s.data.toList.drop p) = if markLen (s.data.toList.drop p) = 0 then .error 130 else .ok (4, markLen (s.data.toList.drop p), 0)) := Lib.hid (by
    rw [hd]
    simp [tokAt, hlc, hdc])
  have hln : (s.data.toList.drop p).length = s.size - p := by rw [List.length_drop, len_eq]
  have HLN := Lib.hid hln
  obtain ⟨U, hU⟩ : ∃ U, U = s.extract p (p + 2) := ⟨_, rfl⟩
  obtain ⟨T, hT⟩ : ∃ T, T = s.extract p (p + 1) := ⟨_, rfl⟩
  have hUl : U.data.toList = (s.data.toList.drop p).take 2 := by rw [hU]; exact ext_mid s p 2
  have hTl : T.data.toList = (s.data.toList.drop p).take 1 := by rw [hT]; exact ext_mid s p 1
  have HUT : Hid (U = ⟨((s.data.toList.drop p).take 2).toArray⟩) := Lib.hid (by rw [← hUl])
  have HTT : Hid (T = ⟨((s.data.toList.drop p).take 1).toArray⟩) := Lib.hid (by rw [← hTl])
  have HML : Hid (markLen (s.data.toList.drop p) = if isMarkS U.data.toList then min 2 (s.size - p) else if isMarkS T.data.toList then 1 else 0) := Lib.hid (by
    rw [hUl, hTl, ← hln]; rfl)
  have HSH : Hid (s.size - p = 1 → isMarkS U.data.toList = isMarkS T.data.toList) := Lib.hid (fun h => by
    rw [hUl, hTl, List.take_of_length_le (by omega), List.take_of_length_le (by omega)])
  have HU := Lib.hid hU; have HT := Lib.hid hT
  clear hlc hdc hd hln hUl hTl hU hT
  have hp0 : (0 : Int) ≤ (p : Int) := by omega
  have hp1 : (p : Int) < (s.size : Int) := by omega
  have hp2 : (p : Int) + 1 ≤ (s.size : Int) := by omega
  have hp2d : decide ((p : Int) + 1 ≤ (s.size : Int)) = true := decide_eq_true hp2
  have hp3 : (p : Int) ≤ (p : Int) + 1 := by omega
  have hp4 : (p : Int) ≤ (p : Int) + 2 := by omega
  have hps : (s.size : Int) ≤ 1000000 := by omega
  have RB : Hid (Blk (w.alloc (.cells #[.int .u8 0, .string ⟨#[]⟩, .int .i64 0, .int .i64 0] 39)) w.heap.size 39 #[.int .u8 0, .string ⟨#[]⟩, .int .i64 0, .int .i64 0]) := Lib.hid (Blk.new w 39 #[.int .u8 0, .string ⟨#[]⟩, .int .i64 0, .int .i64 0])
  have HB : Hid (Below w.heap.size w (w.alloc (.cells #[.int .u8 0, .string ⟨#[]⟩, .int .i64 0, .int .i64 0] 39))) := Lib.hid ((Below.refl w.heap.size w).alloc (Nat.le_refl _) _)
  cases ht : isMarkS T.data.toList
  · have VT : Hid (decide (T.data.toList ∈ marksL) = false) := Lib.hid ((marks_mem _).trans ht)
    have HMT := Lib.hid ht
    clear ht
    by_cases h2 : p + 2 ≤ s.size
    · have h2' : (p : Int) + 2 ≤ (s.size : Int) := by omega
      have h2d : decide ((p : Int) + 2 ≤ (s.size : Int)) = true := decide_eq_true h2'
      cases hu : isMarkS U.data.toList
      · have VU : Hid (decide (U.data.toList ∈ marksL) = false) := Lib.hid ((marks_mem _).trans hu)
        have HMU := Lib.hid hu
        clear hu
        go_enter Tryd.func24, Tryd.ntmps24
        go_wp2_with fail
        refine (rletter_any c _).mono ?_; rw [HC.out]; rintro e w' ⟨rfl, rfl⟩
        go_wp2_with fail
        refine (rdigit_any c _).mono ?_; rw [HDC.out]; rintro e w' ⟨rfl, rfl⟩
        clear hch
        generalize (w.alloc (.cells #[.int .u8 0, .string ⟨#[]⟩, .int .i64 0, .int .i64 0] 39)) = W1 at *
        have r0 : W1.cell? ⟨w.heap.size, 0, none⟩ = some (.int .u8 0) := RB.out.cell 0
        go_wp2_with fail
        refine wp_loop_rounds 3 ?_
        rw [rounds_succ]
        go_wp2_with fail
        have VX : Hid (decide ((s.extract p (p + 2)).data.toList ∈ marksL) = false) := Lib.hid (by rw [← HU.out]; exact VU.out)
        have s1 : IntKind.i64.wrap ((p : Int) + 2) = (p : Int) + 2 := IntWalk.i64_in _ (by omega)
        go_region_held3 (fun W => W.cell? ⟨w.heap.size, 0, none⟩ = some (.int .u8 0)) (go_keep)
          (first
            | (go_at_call 42; refine (marks_b _).mono ?_; rintro e w1 ⟨bw, rfl, hst, rfl⟩)
            | (go_at_call 31; refine (among_v _ _ _ _ marksL false _ (by assumption) (by rfl) (by decide) VX.out).mono ?_; rintro e w1 ⟨rfl, rfl⟩))
        clear VX
        try clear s1

        have RB2 : Hid (Blk (W1.alloc (.cells (strL marksL).toArray 9)).drew w.heap.size 39 #[.int .u8 0, .string ⟨#[]⟩, .int .i64 0, .int .i64 0]) := Lib.hid (RB.out.alloc (.cells (strL marksL).toArray 9))
        have HB2 : Hid (Below w.heap.size w (W1.alloc (.cells (strL marksL).toArray 9)).drew) := Lib.hid ((HB.out.alloc HB.out.size _).drew)
        clear hst RB HB r0
        generalize (W1.alloc (.cells (strL marksL).toArray 9)).drew = W3 at *
        have RB := RB2; have HB := HB2
        clear RB2 HB2
        have r0 : W3.cell? ⟨w.heap.size, 0, none⟩ = some (.int .u8 0) := RB.out.cell 0
        go_wp2_with fail
        rw [rounds_succ]
        go_wp2_with fail
        have VX : Hid (decide ((s.extract p (p + 1)).data.toList ∈ marksL) = false) := Lib.hid (by rw [← HT.out]; exact VT.out)
        have s1 : IntKind.i64.wrap ((p : Int) + 1) = (p : Int) + 1 := IntWalk.i64_in _ (by omega)
        go_region_held3 (fun W => W.cell? ⟨w.heap.size, 0, none⟩ = some (.int .u8 0)) (go_keep)
          (first
            | (go_at_call 42; refine (marks_b _).mono ?_; rintro e w1 ⟨bw, rfl, hst, rfl⟩)
            | (go_at_call 31; refine (among_v _ _ _ _ marksL false _ (by assumption) (by rfl) (by decide) VX.out).mono ?_; rintro e w1 ⟨rfl, rfl⟩))
        clear VX
        try clear s1

        have RB2 : Hid (Blk (W3.alloc (.cells (strL marksL).toArray 9)).drew w.heap.size 39 #[.int .u8 0, .string ⟨#[]⟩, .int .i64 0, .int .i64 0]) := Lib.hid (RB.out.alloc (.cells (strL marksL).toArray 9))
        have HB2 : Hid (Below w.heap.size w (W3.alloc (.cells (strL marksL).toArray 9)).drew) := Lib.hid ((HB.out.alloc HB.out.size _).drew)
        clear hst RB HB r0
        generalize (W3.alloc (.cells (strL marksL).toArray 9)).drew = W5 at *
        have RB := RB2; have HB := HB2
        clear RB2 HB2
        have HX : Hid (markLen (s.data.toList.drop p) = 0) := Lib.hid (by rw [HML.out, HMU.out, HMT.out]; rfl)
        have r0 : W5.cell? ⟨w.heap.size, 0, none⟩ = some (.int .u8 0) := RB.out.cell 0
        go_wp2_with fail
        rw [rounds_succ]
        clear r0
        have r0 : W5.cell? ⟨w.heap.size, 0, none⟩ = some (.int .u8 0) := RB.out.cell 0
        have r1 : W5.cell? ⟨w.heap.size, 1, none⟩ = some (.string ⟨#[]⟩) := RB.out.cell 1
        have r2 : W5.cell? ⟨w.heap.size, 2, none⟩ = some (.int .i64 0) := RB.out.cell 2
        have r3 : W5.cell? ⟨w.heap.size, 3, none⟩ = some (.int .i64 0) := RB.out.cell 3
        have q0 := RB.out.free 0
        have q1 := RB.out.free 1
        have q2 := RB.out.free 2
        have q3 := RB.out.free 3
        go_wp2_with fail
        have rF := Lib.hid (((((RB.out.put 0 (Value.int .u8 0)).put 1 (Value.string ⟨#[]⟩)).put 2 (Value.int .i64 0)).put 3 (Value.int .i64 0)) : Blk ((((W5.setCell ⟨w.heap.size, 0, none⟩ (Value.int .u8 0)).setCell ⟨w.heap.size, 1, none⟩ (Value.string ⟨#[]⟩)).setCell ⟨w.heap.size, 2, none⟩ (Value.int .i64 0)).setCell ⟨w.heap.size, 3, none⟩ (Value.int .i64 0)) w.heap.size 39 #[Value.int .u8 0, Value.string ⟨#[]⟩, Value.int .i64 0, Value.int .i64 0])
        have bF := Lib.hid (((((HB.out.setCell (p := ⟨w.heap.size, 0, none⟩) (Nat.le_refl _) (Value.int .u8 0)).setCell (p := ⟨w.heap.size, 1, none⟩) (Nat.le_refl _) (Value.string ⟨#[]⟩)).setCell (p := ⟨w.heap.size, 2, none⟩) (Nat.le_refl _) (Value.int .i64 0)).setCell (p := ⟨w.heap.size, 3, none⟩) (Nat.le_refl _) (Value.int .i64 0)) : Below w.heap.size w ((((W5.setCell ⟨w.heap.size, 0, none⟩ (Value.int .u8 0)).setCell ⟨w.heap.size, 1, none⟩ (Value.string ⟨#[]⟩)).setCell ⟨w.heap.size, 2, none⟩ (Value.int .i64 0)).setCell ⟨w.heap.size, 3, none⟩ (Value.int .i64 0)))
        generalize ((((W5.setCell ⟨w.heap.size, 0, none⟩ (Value.int .u8 0)).setCell ⟨w.heap.size, 1, none⟩ (Value.string ⟨#[]⟩)).setCell ⟨w.heap.size, 2, none⟩ (Value.int .i64 0)).setCell ⟨w.heap.size, 3, none⟩ (Value.int .i64 0)) = WF at *
        have z0 : WF.cell? ⟨w.heap.size, 0, none⟩ = some (Value.int .u8 0) := rF.out.cell 0
        have z1 : WF.cell? ⟨w.heap.size, 1, none⟩ = some (Value.string ⟨#[]⟩) := rF.out.cell 1
        have z2 : WF.cell? ⟨w.heap.size, 2, none⟩ = some (Value.int .i64 0) := rF.out.cell 2
        have z3 : WF.cell? ⟨w.heap.size, 3, none⟩ = some (Value.int .i64 0) := rF.out.cell 3
        refine bodyPost_ret (v := .tuple #[.agg #[Value.int .u8 0, Value.string ⟨#[]⟩, Value.int .i64 0, Value.int .i64 0], .int .i64 130]) ?_ rfl ⟨oneOut_no (HOUT.out.trans (by rw [HX.out]; rfl)) rfl, bF.out⟩
        simp [results, Tryd.results24, go_sem, z0, z1, z2, z3]
      · have VU : Hid (decide (U.data.toList ∈ marksL) = true) := Lib.hid ((marks_mem _).trans hu)
        have HMU := Lib.hid hu
        clear hu
        go_enter Tryd.func24, Tryd.ntmps24
        go_wp2_with fail
        refine (rletter_any c _).mono ?_; rw [HC.out]; rintro e w' ⟨rfl, rfl⟩
        go_wp2_with fail
        refine (rdigit_any c _).mono ?_; rw [HDC.out]; rintro e w' ⟨rfl, rfl⟩
        clear hch
        generalize (w.alloc (.cells #[.int .u8 0, .string ⟨#[]⟩, .int .i64 0, .int .i64 0] 39)) = W1 at *
        have r0 : W1.cell? ⟨w.heap.size, 0, none⟩ = some (.int .u8 0) := RB.out.cell 0
        go_wp2_with fail
        refine wp_loop_rounds 3 ?_
        rw [rounds_succ]
        go_wp2_with fail
        have VX : Hid (decide ((s.extract p (p + 2)).data.toList ∈ marksL) = true) := Lib.hid (by rw [← HU.out]; exact VU.out)
        have s1 : IntKind.i64.wrap ((p : Int) + 2) = (p : Int) + 2 := IntWalk.i64_in _ (by omega)
        go_region_held3 (fun W => W.cell? ⟨w.heap.size, 0, none⟩ = some (.int .u8 0)) (go_keep)
          (first
            | (go_at_call 42; refine (marks_b _).mono ?_; rintro e w1 ⟨bw, rfl, hst, rfl⟩)
            | (go_at_call 31; refine (among_v _ _ _ _ marksL true _ (by assumption) (by rfl) (by decide) VX.out).mono ?_; rintro e w1 ⟨rfl, rfl⟩))
        clear VX
        try clear s1

        have RB2 : Hid (Blk (W1.alloc (.cells (strL marksL).toArray 9)).drew w.heap.size 39 #[.int .u8 0, .string ⟨#[]⟩, .int .i64 0, .int .i64 0]) := Lib.hid (RB.out.alloc (.cells (strL marksL).toArray 9))
        have HB2 : Hid (Below w.heap.size w (W1.alloc (.cells (strL marksL).toArray 9)).drew) := Lib.hid ((HB.out.alloc HB.out.size _).drew)
        clear hst RB HB r0
        generalize (W1.alloc (.cells (strL marksL).toArray 9)).drew = W3 at *
        have RB := RB2; have HB := HB2
        clear RB2 HB2
        have HX : Hid (markLen (s.data.toList.drop p) = 2) := Lib.hid (by rw [HML.out, HMU.out, if_pos rfl]; omega)
        have hU2 := HU.out
        have r0 : W3.cell? ⟨w.heap.size, 0, none⟩ = some (.int .u8 0) := RB.out.cell 0
        have r1 : W3.cell? ⟨w.heap.size, 1, none⟩ = some (.string ⟨#[]⟩) := RB.out.cell 1
        have r2 : W3.cell? ⟨w.heap.size, 2, none⟩ = some (.int .i64 0) := RB.out.cell 2
        have r3 : W3.cell? ⟨w.heap.size, 3, none⟩ = some (.int .i64 0) := RB.out.cell 3
        have q0 := RB.out.free 0
        have q1 := RB.out.free 1
        have q2 := RB.out.free 2
        have q3 := RB.out.free 3
        go_wp2_with fail
        rw [← HU.out]
        have rF := Lib.hid (((((RB.out.put 0 (Value.int .u8 4)).put 1 (Value.string U)).put 2 (Value.int .i64 0)).put 3 (Value.int .i64 p)) : Blk ((((W3.setCell ⟨w.heap.size, 0, none⟩ (Value.int .u8 4)).setCell ⟨w.heap.size, 1, none⟩ (Value.string U)).setCell ⟨w.heap.size, 2, none⟩ (Value.int .i64 0)).setCell ⟨w.heap.size, 3, none⟩ (Value.int .i64 p)) w.heap.size 39 #[Value.int .u8 4, Value.string U, Value.int .i64 0, Value.int .i64 p])
        have bF := Lib.hid (((((HB.out.setCell (p := ⟨w.heap.size, 0, none⟩) (Nat.le_refl _) (Value.int .u8 4)).setCell (p := ⟨w.heap.size, 1, none⟩) (Nat.le_refl _) (Value.string U)).setCell (p := ⟨w.heap.size, 2, none⟩) (Nat.le_refl _) (Value.int .i64 0)).setCell (p := ⟨w.heap.size, 3, none⟩) (Nat.le_refl _) (Value.int .i64 p)) : Below w.heap.size w ((((W3.setCell ⟨w.heap.size, 0, none⟩ (Value.int .u8 4)).setCell ⟨w.heap.size, 1, none⟩ (Value.string U)).setCell ⟨w.heap.size, 2, none⟩ (Value.int .i64 0)).setCell ⟨w.heap.size, 3, none⟩ (Value.int .i64 p)))
        generalize ((((W3.setCell ⟨w.heap.size, 0, none⟩ (Value.int .u8 4)).setCell ⟨w.heap.size, 1, none⟩ (Value.string U)).setCell ⟨w.heap.size, 2, none⟩ (Value.int .i64 0)).setCell ⟨w.heap.size, 3, none⟩ (Value.int .i64 p)) = WF at *
        have z0 : WF.cell? ⟨w.heap.size, 0, none⟩ = some (Value.int .u8 4) := rF.out.cell 0
        have z1 : WF.cell? ⟨w.heap.size, 1, none⟩ = some (Value.string U) := rF.out.cell 1
        have z2 : WF.cell? ⟨w.heap.size, 2, none⟩ = some (Value.int .i64 0) := rF.out.cell 2
        have z3 : WF.cell? ⟨w.heap.size, 3, none⟩ = some (Value.int .i64 p) := rF.out.cell 3
        refine bodyPost_ret (v := .tuple #[.agg #[Value.int .u8 4, Value.string U, Value.int .i64 0, Value.int .i64 p], .int .i64 0]) ?_ rfl ⟨oneOut_ok (HOUT.out.trans (by rw [HX.out]; rfl)) HUT.out rfl, bF.out⟩
        simp [results, Tryd.results24, go_sem, z0, z1, z2, z3]
    · have h2' : ¬ (p : Int) + 2 ≤ (s.size : Int) := by omega
      have h2d : decide ((p : Int) + 2 ≤ (s.size : Int)) = false := decide_eq_false h2'
      have HMU : Hid (isMarkS U.data.toList = false) := Lib.hid ((HSH.out (by omega)).trans HMT.out)
      go_enter Tryd.func24, Tryd.ntmps24
      go_wp2_with fail
      refine (rletter_any c _).mono ?_; rw [HC.out]; rintro e w' ⟨rfl, rfl⟩
      go_wp2_with fail
      refine (rdigit_any c _).mono ?_; rw [HDC.out]; rintro e w' ⟨rfl, rfl⟩
      clear hch
      generalize (w.alloc (.cells #[.int .u8 0, .string ⟨#[]⟩, .int .i64 0, .int .i64 0] 39)) = W1 at *
      have r0 : W1.cell? ⟨w.heap.size, 0, none⟩ = some (.int .u8 0) := RB.out.cell 0
      go_wp2_with fail
      refine wp_loop_rounds 3 ?_
      rw [rounds_succ]
      go_wp2_with fail
      have s1 : IntKind.i64.wrap ((p : Int) + 2) = (p : Int) + 2 := IntWalk.i64_in _ (by omega)
      go_quiet (fail)
      clear s1
      have RB2 : Hid (Blk (W1.drewN nq) w.heap.size 39 #[.int .u8 0, .string ⟨#[]⟩, .int .i64 0, .int .i64 0]) := Lib.hid RB.out
      have HB2 : Hid (Below w.heap.size w (W1.drewN nq)) := Lib.hid (HB.out.trans ((below_drewN W1 nq).mono HB.out.size))
      clear RB HB r0
      generalize W1.drewN nq = W3 at *
      have RB := RB2; have HB := HB2
      clear RB2 HB2
      have r0 : W3.cell? ⟨w.heap.size, 0, none⟩ = some (.int .u8 0) := RB.out.cell 0
      go_wp2_with fail
      rw [rounds_succ]
      go_wp2_with fail
      have VX : Hid (decide ((s.extract p (p + 1)).data.toList ∈ marksL) = false) := Lib.hid (by rw [← HT.out]; exact VT.out)
      have s1 : IntKind.i64.wrap ((p : Int) + 1) = (p : Int) + 1 := IntWalk.i64_in _ (by omega)
      go_region_held3 (fun W => W.cell? ⟨w.heap.size, 0, none⟩ = some (.int .u8 0)) (go_keep)
        (first
          | (go_at_call 42; refine (marks_b _).mono ?_; rintro e w1 ⟨bw, rfl, hst, rfl⟩)
          | (go_at_call 31; refine (among_v _ _ _ _ marksL false _ (by assumption) (by rfl) (by decide) VX.out).mono ?_; rintro e w1 ⟨rfl, rfl⟩))
      clear VX
      try clear s1

      have RB2 : Hid (Blk (W3.alloc (.cells (strL marksL).toArray 9)).drew w.heap.size 39 #[.int .u8 0, .string ⟨#[]⟩, .int .i64 0, .int .i64 0]) := Lib.hid (RB.out.alloc (.cells (strL marksL).toArray 9))
      have HB2 : Hid (Below w.heap.size w (W3.alloc (.cells (strL marksL).toArray 9)).drew) := Lib.hid ((HB.out.alloc HB.out.size _).drew)
      clear hst RB HB r0
      generalize (W3.alloc (.cells (strL marksL).toArray 9)).drew = W5 at *
      have RB := RB2; have HB := HB2
      clear RB2 HB2
      have HX : Hid (markLen (s.data.toList.drop p) = 0) := Lib.hid (by rw [HML.out, HMU.out, HMT.out]; rfl)
      have r0 : W5.cell? ⟨w.heap.size, 0, none⟩ = some (.int .u8 0) := RB.out.cell 0
      go_wp2_with fail
      rw [rounds_succ]
      clear r0
      have r0 : W5.cell? ⟨w.heap.size, 0, none⟩ = some (.int .u8 0) := RB.out.cell 0
      have r1 : W5.cell? ⟨w.heap.size, 1, none⟩ = some (.string ⟨#[]⟩) := RB.out.cell 1
      have r2 : W5.cell? ⟨w.heap.size, 2, none⟩ = some (.int .i64 0) := RB.out.cell 2
      have r3 : W5.cell? ⟨w.heap.size, 3, none⟩ = some (.int .i64 0) := RB.out.cell 3
      have q0 := RB.out.free 0
      have q1 := RB.out.free 1
      have q2 := RB.out.free 2
      have q3 := RB.out.free 3
      go_wp2_with fail
      have rF := Lib.hid (((((RB.out.put 0 (Value.int .u8 0)).put 1 (Value.string ⟨#[]⟩)).put 2 (Value.int .i64 0)).put 3 (Value.int .i64 0)) : Blk ((((W5.setCell ⟨w.heap.size, 0, none⟩ (Value.int .u8 0)).setCell ⟨w.heap.size, 1, none⟩ (Value.string ⟨#[]⟩)).setCell ⟨w.heap.size, 2, none⟩ (Value.int .i64 0)).setCell ⟨w.heap.size, 3, none⟩ (Value.int .i64 0)) w.heap.size 39 #[Value.int .u8 0, Value.string ⟨#[]⟩, Value.int .i64 0, Value.int .i64 0])
      have bF := Lib.hid (((((HB.out.setCell (p := ⟨w.heap.size, 0, none⟩) (Nat.le_refl _) (Value.int .u8 0)).setCell (p := ⟨w.heap.size, 1, none⟩) (Nat.le_refl _) (Value.string ⟨#[]⟩)).setCell (p := ⟨w.heap.size, 2, none⟩) (Nat.le_refl _) (Value.int .i64 0)).setCell (p := ⟨w.heap.size, 3, none⟩) (Nat.le_refl _) (Value.int .i64 0)) : Below w.heap.size w ((((W5.setCell ⟨w.heap.size, 0, none⟩ (Value.int .u8 0)).setCell ⟨w.heap.size, 1, none⟩ (Value.string ⟨#[]⟩)).setCell ⟨w.heap.size, 2, none⟩ (Value.int .i64 0)).setCell ⟨w.heap.size, 3, none⟩ (Value.int .i64 0)))
      generalize ((((W5.setCell ⟨w.heap.size, 0, none⟩ (Value.int .u8 0)).setCell ⟨w.heap.size, 1, none⟩ (Value.string ⟨#[]⟩)).setCell ⟨w.heap.size, 2, none⟩ (Value.int .i64 0)).setCell ⟨w.heap.size, 3, none⟩ (Value.int .i64 0)) = WF at *
      have z0 : WF.cell? ⟨w.heap.size, 0, none⟩ = some (Value.int .u8 0) := rF.out.cell 0
      have z1 : WF.cell? ⟨w.heap.size, 1, none⟩ = some (Value.string ⟨#[]⟩) := rF.out.cell 1
      have z2 : WF.cell? ⟨w.heap.size, 2, none⟩ = some (Value.int .i64 0) := rF.out.cell 2
      have z3 : WF.cell? ⟨w.heap.size, 3, none⟩ = some (Value.int .i64 0) := rF.out.cell 3
      refine bodyPost_ret (v := .tuple #[.agg #[Value.int .u8 0, Value.string ⟨#[]⟩, Value.int .i64 0, Value.int .i64 0], .int .i64 130]) ?_ rfl ⟨oneOut_no (HOUT.out.trans (by rw [HX.out]; rfl)) rfl, bF.out⟩
      simp [results, Tryd.results24, go_sem, z0, z1, z2, z3]
  · have VT : Hid (decide (T.data.toList ∈ marksL) = true) := Lib.hid ((marks_mem _).trans ht)
    have HMT := Lib.hid ht
    clear ht
    by_cases h2 : p + 2 ≤ s.size
    · have h2' : (p : Int) + 2 ≤ (s.size : Int) := by omega
      have h2d : decide ((p : Int) + 2 ≤ (s.size : Int)) = true := decide_eq_true h2'
      cases hu : isMarkS U.data.toList
      · have VU : Hid (decide (U.data.toList ∈ marksL) = false) := Lib.hid ((marks_mem _).trans hu)
        have HMU := Lib.hid hu
        clear hu
        go_enter Tryd.func24, Tryd.ntmps24
        go_wp2_with fail
        refine (rletter_any c _).mono ?_; rw [HC.out]; rintro e w' ⟨rfl, rfl⟩
        go_wp2_with fail
        refine (rdigit_any c _).mono ?_; rw [HDC.out]; rintro e w' ⟨rfl, rfl⟩
        clear hch
        generalize (w.alloc (.cells #[.int .u8 0, .string ⟨#[]⟩, .int .i64 0, .int .i64 0] 39)) = W1 at *
        have r0 : W1.cell? ⟨w.heap.size, 0, none⟩ = some (.int .u8 0) := RB.out.cell 0
        go_wp2_with fail
        refine wp_loop_rounds 3 ?_
        rw [rounds_succ]
        go_wp2_with fail
        have VX : Hid (decide ((s.extract p (p + 2)).data.toList ∈ marksL) = false) := Lib.hid (by rw [← HU.out]; exact VU.out)
        have s1 : IntKind.i64.wrap ((p : Int) + 2) = (p : Int) + 2 := IntWalk.i64_in _ (by omega)
        go_region_held3 (fun W => W.cell? ⟨w.heap.size, 0, none⟩ = some (.int .u8 0)) (go_keep)
          (first
            | (go_at_call 42; refine (marks_b _).mono ?_; rintro e w1 ⟨bw, rfl, hst, rfl⟩)
            | (go_at_call 31; refine (among_v _ _ _ _ marksL false _ (by assumption) (by rfl) (by decide) VX.out).mono ?_; rintro e w1 ⟨rfl, rfl⟩))
        clear VX
        try clear s1

        have RB2 : Hid (Blk (W1.alloc (.cells (strL marksL).toArray 9)).drew w.heap.size 39 #[.int .u8 0, .string ⟨#[]⟩, .int .i64 0, .int .i64 0]) := Lib.hid (RB.out.alloc (.cells (strL marksL).toArray 9))
        have HB2 : Hid (Below w.heap.size w (W1.alloc (.cells (strL marksL).toArray 9)).drew) := Lib.hid ((HB.out.alloc HB.out.size _).drew)
        clear hst RB HB r0
        generalize (W1.alloc (.cells (strL marksL).toArray 9)).drew = W3 at *
        have RB := RB2; have HB := HB2
        clear RB2 HB2
        have r0 : W3.cell? ⟨w.heap.size, 0, none⟩ = some (.int .u8 0) := RB.out.cell 0
        go_wp2_with fail
        rw [rounds_succ]
        go_wp2_with fail
        have VX : Hid (decide ((s.extract p (p + 1)).data.toList ∈ marksL) = true) := Lib.hid (by rw [← HT.out]; exact VT.out)
        have s1 : IntKind.i64.wrap ((p : Int) + 1) = (p : Int) + 1 := IntWalk.i64_in _ (by omega)
        go_region_held3 (fun W => W.cell? ⟨w.heap.size, 0, none⟩ = some (.int .u8 0)) (go_keep)
          (first
            | (go_at_call 42; refine (marks_b _).mono ?_; rintro e w1 ⟨bw, rfl, hst, rfl⟩)
            | (go_at_call 31; refine (among_v _ _ _ _ marksL true _ (by assumption) (by rfl) (by decide) VX.out).mono ?_; rintro e w1 ⟨rfl, rfl⟩))
        clear VX
        try clear s1

        have RB2 : Hid (Blk (W3.alloc (.cells (strL marksL).toArray 9)).drew w.heap.size 39 #[.int .u8 0, .string ⟨#[]⟩, .int .i64 0, .int .i64 0]) := Lib.hid (RB.out.alloc (.cells (strL marksL).toArray 9))
        have HB2 : Hid (Below w.heap.size w (W3.alloc (.cells (strL marksL).toArray 9)).drew) := Lib.hid ((HB.out.alloc HB.out.size _).drew)
        clear hst RB HB r0
        generalize (W3.alloc (.cells (strL marksL).toArray 9)).drew = W5 at *
        have RB := RB2; have HB := HB2
        clear RB2 HB2
        have HX : Hid (markLen (s.data.toList.drop p) = 1) := Lib.hid (by rw [HML.out, HMU.out, HMT.out]; rfl)
        have r0 : W5.cell? ⟨w.heap.size, 0, none⟩ = some (.int .u8 0) := RB.out.cell 0
        have r1 : W5.cell? ⟨w.heap.size, 1, none⟩ = some (.string ⟨#[]⟩) := RB.out.cell 1
        have r2 : W5.cell? ⟨w.heap.size, 2, none⟩ = some (.int .i64 0) := RB.out.cell 2
        have r3 : W5.cell? ⟨w.heap.size, 3, none⟩ = some (.int .i64 0) := RB.out.cell 3
        have q0 := RB.out.free 0
        have q1 := RB.out.free 1
        have q2 := RB.out.free 2
        have q3 := RB.out.free 3
        go_wp2_with fail
        rw [← HT.out]
        have rF := Lib.hid (((((RB.out.put 0 (Value.int .u8 4)).put 1 (Value.string T)).put 2 (Value.int .i64 0)).put 3 (Value.int .i64 p)) : Blk ((((W5.setCell ⟨w.heap.size, 0, none⟩ (Value.int .u8 4)).setCell ⟨w.heap.size, 1, none⟩ (Value.string T)).setCell ⟨w.heap.size, 2, none⟩ (Value.int .i64 0)).setCell ⟨w.heap.size, 3, none⟩ (Value.int .i64 p)) w.heap.size 39 #[Value.int .u8 4, Value.string T, Value.int .i64 0, Value.int .i64 p])
        have bF := Lib.hid (((((HB.out.setCell (p := ⟨w.heap.size, 0, none⟩) (Nat.le_refl _) (Value.int .u8 4)).setCell (p := ⟨w.heap.size, 1, none⟩) (Nat.le_refl _) (Value.string T)).setCell (p := ⟨w.heap.size, 2, none⟩) (Nat.le_refl _) (Value.int .i64 0)).setCell (p := ⟨w.heap.size, 3, none⟩) (Nat.le_refl _) (Value.int .i64 p)) : Below w.heap.size w ((((W5.setCell ⟨w.heap.size, 0, none⟩ (Value.int .u8 4)).setCell ⟨w.heap.size, 1, none⟩ (Value.string T)).setCell ⟨w.heap.size, 2, none⟩ (Value.int .i64 0)).setCell ⟨w.heap.size, 3, none⟩ (Value.int .i64 p)))
        generalize ((((W5.setCell ⟨w.heap.size, 0, none⟩ (Value.int .u8 4)).setCell ⟨w.heap.size, 1, none⟩ (Value.string T)).setCell ⟨w.heap.size, 2, none⟩ (Value.int .i64 0)).setCell ⟨w.heap.size, 3, none⟩ (Value.int .i64 p)) = WF at *
        have z0 : WF.cell? ⟨w.heap.size, 0, none⟩ = some (Value.int .u8 4) := rF.out.cell 0
        have z1 : WF.cell? ⟨w.heap.size, 1, none⟩ = some (Value.string T) := rF.out.cell 1
        have z2 : WF.cell? ⟨w.heap.size, 2, none⟩ = some (Value.int .i64 0) := rF.out.cell 2
        have z3 : WF.cell? ⟨w.heap.size, 3, none⟩ = some (Value.int .i64 p) := rF.out.cell 3
        refine bodyPost_ret (v := .tuple #[.agg #[Value.int .u8 4, Value.string T, Value.int .i64 0, Value.int .i64 p], .int .i64 0]) ?_ rfl ⟨oneOut_ok (HOUT.out.trans (by rw [HX.out]; rfl)) HTT.out rfl, bF.out⟩
        simp [results, Tryd.results24, go_sem, z0, z1, z2, z3]
      · have VU : Hid (decide (U.data.toList ∈ marksL) = true) := Lib.hid ((marks_mem _).trans hu)
        have HMU := Lib.hid hu
        clear hu
        go_enter Tryd.func24, Tryd.ntmps24
        go_wp2_with fail
        refine (rletter_any c _).mono ?_; rw [HC.out]; rintro e w' ⟨rfl, rfl⟩
        go_wp2_with fail
        refine (rdigit_any c _).mono ?_; rw [HDC.out]; rintro e w' ⟨rfl, rfl⟩
        clear hch
        generalize (w.alloc (.cells #[.int .u8 0, .string ⟨#[]⟩, .int .i64 0, .int .i64 0] 39)) = W1 at *
        have r0 : W1.cell? ⟨w.heap.size, 0, none⟩ = some (.int .u8 0) := RB.out.cell 0
        go_wp2_with fail
        refine wp_loop_rounds 3 ?_
        rw [rounds_succ]
        go_wp2_with fail
        have VX : Hid (decide ((s.extract p (p + 2)).data.toList ∈ marksL) = true) := Lib.hid (by rw [← HU.out]; exact VU.out)
        have s1 : IntKind.i64.wrap ((p : Int) + 2) = (p : Int) + 2 := IntWalk.i64_in _ (by omega)
        go_region_held3 (fun W => W.cell? ⟨w.heap.size, 0, none⟩ = some (.int .u8 0)) (go_keep)
          (first
            | (go_at_call 42; refine (marks_b _).mono ?_; rintro e w1 ⟨bw, rfl, hst, rfl⟩)
            | (go_at_call 31; refine (among_v _ _ _ _ marksL true _ (by assumption) (by rfl) (by decide) VX.out).mono ?_; rintro e w1 ⟨rfl, rfl⟩))
        clear VX
        try clear s1

        have RB2 : Hid (Blk (W1.alloc (.cells (strL marksL).toArray 9)).drew w.heap.size 39 #[.int .u8 0, .string ⟨#[]⟩, .int .i64 0, .int .i64 0]) := Lib.hid (RB.out.alloc (.cells (strL marksL).toArray 9))
        have HB2 : Hid (Below w.heap.size w (W1.alloc (.cells (strL marksL).toArray 9)).drew) := Lib.hid ((HB.out.alloc HB.out.size _).drew)
        clear hst RB HB r0
        generalize (W1.alloc (.cells (strL marksL).toArray 9)).drew = W3 at *
        have RB := RB2; have HB := HB2
        clear RB2 HB2
        have HX : Hid (markLen (s.data.toList.drop p) = 2) := Lib.hid (by rw [HML.out, HMU.out, if_pos rfl]; omega)
        have hU2 := HU.out
        have r0 : W3.cell? ⟨w.heap.size, 0, none⟩ = some (.int .u8 0) := RB.out.cell 0
        have r1 : W3.cell? ⟨w.heap.size, 1, none⟩ = some (.string ⟨#[]⟩) := RB.out.cell 1
        have r2 : W3.cell? ⟨w.heap.size, 2, none⟩ = some (.int .i64 0) := RB.out.cell 2
        have r3 : W3.cell? ⟨w.heap.size, 3, none⟩ = some (.int .i64 0) := RB.out.cell 3
        have q0 := RB.out.free 0
        have q1 := RB.out.free 1
        have q2 := RB.out.free 2
        have q3 := RB.out.free 3
        go_wp2_with fail
        rw [← HU.out]
        have rF := Lib.hid (((((RB.out.put 0 (Value.int .u8 4)).put 1 (Value.string U)).put 2 (Value.int .i64 0)).put 3 (Value.int .i64 p)) : Blk ((((W3.setCell ⟨w.heap.size, 0, none⟩ (Value.int .u8 4)).setCell ⟨w.heap.size, 1, none⟩ (Value.string U)).setCell ⟨w.heap.size, 2, none⟩ (Value.int .i64 0)).setCell ⟨w.heap.size, 3, none⟩ (Value.int .i64 p)) w.heap.size 39 #[Value.int .u8 4, Value.string U, Value.int .i64 0, Value.int .i64 p])
        have bF := Lib.hid (((((HB.out.setCell (p := ⟨w.heap.size, 0, none⟩) (Nat.le_refl _) (Value.int .u8 4)).setCell (p := ⟨w.heap.size, 1, none⟩) (Nat.le_refl _) (Value.string U)).setCell (p := ⟨w.heap.size, 2, none⟩) (Nat.le_refl _) (Value.int .i64 0)).setCell (p := ⟨w.heap.size, 3, none⟩) (Nat.le_refl _) (Value.int .i64 p)) : Below w.heap.size w ((((W3.setCell ⟨w.heap.size, 0, none⟩ (Value.int .u8 4)).setCell ⟨w.heap.size, 1, none⟩ (Value.string U)).setCell ⟨w.heap.size, 2, none⟩ (Value.int .i64 0)).setCell ⟨w.heap.size, 3, none⟩ (Value.int .i64 p)))
        generalize ((((W3.setCell ⟨w.heap.size, 0, none⟩ (Value.int .u8 4)).setCell ⟨w.heap.size, 1, none⟩ (Value.string U)).setCell ⟨w.heap.size, 2, none⟩ (Value.int .i64 0)).setCell ⟨w.heap.size, 3, none⟩ (Value.int .i64 p)) = WF at *
        have z0 : WF.cell? ⟨w.heap.size, 0, none⟩ = some (Value.int .u8 4) := rF.out.cell 0
        have z1 : WF.cell? ⟨w.heap.size, 1, none⟩ = some (Value.string U) := rF.out.cell 1
        have z2 : WF.cell? ⟨w.heap.size, 2, none⟩ = some (Value.int .i64 0) := rF.out.cell 2
        have z3 : WF.cell? ⟨w.heap.size, 3, none⟩ = some (Value.int .i64 p) := rF.out.cell 3
        refine bodyPost_ret (v := .tuple #[.agg #[Value.int .u8 4, Value.string U, Value.int .i64 0, Value.int .i64 p], .int .i64 0]) ?_ rfl ⟨oneOut_ok (HOUT.out.trans (by rw [HX.out]; rfl)) HUT.out rfl, bF.out⟩
        simp [results, Tryd.results24, go_sem, z0, z1, z2, z3]
    · have h2' : ¬ (p : Int) + 2 ≤ (s.size : Int) := by omega
      have h2d : decide ((p : Int) + 2 ≤ (s.size : Int)) = false := decide_eq_false h2'
      have HMU : Hid (isMarkS U.data.toList = true) := Lib.hid ((HSH.out (by omega)).trans HMT.out)
      go_enter Tryd.func24, Tryd.ntmps24
      go_wp2_with fail
      refine (rletter_any c _).mono ?_; rw [HC.out]; rintro e w' ⟨rfl, rfl⟩
      go_wp2_with fail
      refine (rdigit_any c _).mono ?_; rw [HDC.out]; rintro e w' ⟨rfl, rfl⟩
      clear hch
      generalize (w.alloc (.cells #[.int .u8 0, .string ⟨#[]⟩, .int .i64 0, .int .i64 0] 39)) = W1 at *
      have r0 : W1.cell? ⟨w.heap.size, 0, none⟩ = some (.int .u8 0) := RB.out.cell 0
      go_wp2_with fail
      refine wp_loop_rounds 3 ?_
      rw [rounds_succ]
      go_wp2_with fail
      have s1 : IntKind.i64.wrap ((p : Int) + 2) = (p : Int) + 2 := IntWalk.i64_in _ (by omega)
      go_quiet (fail)
      clear s1
      have RB2 : Hid (Blk (W1.drewN nq) w.heap.size 39 #[.int .u8 0, .string ⟨#[]⟩, .int .i64 0, .int .i64 0]) := Lib.hid RB.out
      have HB2 : Hid (Below w.heap.size w (W1.drewN nq)) := Lib.hid (HB.out.trans ((below_drewN W1 nq).mono HB.out.size))
      clear RB HB r0
      generalize W1.drewN nq = W3 at *
      have RB := RB2; have HB := HB2
      clear RB2 HB2
      have r0 : W3.cell? ⟨w.heap.size, 0, none⟩ = some (.int .u8 0) := RB.out.cell 0
      go_wp2_with fail
      rw [rounds_succ]
      go_wp2_with fail
      have VX : Hid (decide ((s.extract p (p + 1)).data.toList ∈ marksL) = true) := Lib.hid (by rw [← HT.out]; exact VT.out)
      have s1 : IntKind.i64.wrap ((p : Int) + 1) = (p : Int) + 1 := IntWalk.i64_in _ (by omega)
      go_region_held3 (fun W => W.cell? ⟨w.heap.size, 0, none⟩ = some (.int .u8 0)) (go_keep)
        (first
          | (go_at_call 42; refine (marks_b _).mono ?_; rintro e w1 ⟨bw, rfl, hst, rfl⟩)
          | (go_at_call 31; refine (among_v _ _ _ _ marksL true _ (by assumption) (by rfl) (by decide) VX.out).mono ?_; rintro e w1 ⟨rfl, rfl⟩))
      clear VX
      try clear s1

      have RB2 : Hid (Blk (W3.alloc (.cells (strL marksL).toArray 9)).drew w.heap.size 39 #[.int .u8 0, .string ⟨#[]⟩, .int .i64 0, .int .i64 0]) := Lib.hid (RB.out.alloc (.cells (strL marksL).toArray 9))
      have HB2 : Hid (Below w.heap.size w (W3.alloc (.cells (strL marksL).toArray 9)).drew) := Lib.hid ((HB.out.alloc HB.out.size _).drew)
      clear hst RB HB r0
      generalize (W3.alloc (.cells (strL marksL).toArray 9)).drew = W5 at *
      have RB := RB2; have HB := HB2
      clear RB2 HB2
      have HX : Hid (markLen (s.data.toList.drop p) = 1) := Lib.hid (by rw [HML.out, HMU.out, if_pos rfl]; omega)
      have r0 : W5.cell? ⟨w.heap.size, 0, none⟩ = some (.int .u8 0) := RB.out.cell 0
      have r1 : W5.cell? ⟨w.heap.size, 1, none⟩ = some (.string ⟨#[]⟩) := RB.out.cell 1
      have r2 : W5.cell? ⟨w.heap.size, 2, none⟩ = some (.int .i64 0) := RB.out.cell 2
      have r3 : W5.cell? ⟨w.heap.size, 3, none⟩ = some (.int .i64 0) := RB.out.cell 3
      have q0 := RB.out.free 0
      have q1 := RB.out.free 1
      have q2 := RB.out.free 2
      have q3 := RB.out.free 3
      go_wp2_with fail
      rw [← HT.out]
      have rF := Lib.hid (((((RB.out.put 0 (Value.int .u8 4)).put 1 (Value.string T)).put 2 (Value.int .i64 0)).put 3 (Value.int .i64 p)) : Blk ((((W5.setCell ⟨w.heap.size, 0, none⟩ (Value.int .u8 4)).setCell ⟨w.heap.size, 1, none⟩ (Value.string T)).setCell ⟨w.heap.size, 2, none⟩ (Value.int .i64 0)).setCell ⟨w.heap.size, 3, none⟩ (Value.int .i64 p)) w.heap.size 39 #[Value.int .u8 4, Value.string T, Value.int .i64 0, Value.int .i64 p])
      have bF := Lib.hid (((((HB.out.setCell (p := ⟨w.heap.size, 0, none⟩) (Nat.le_refl _) (Value.int .u8 4)).setCell (p := ⟨w.heap.size, 1, none⟩) (Nat.le_refl _) (Value.string T)).setCell (p := ⟨w.heap.size, 2, none⟩) (Nat.le_refl _) (Value.int .i64 0)).setCell (p := ⟨w.heap.size, 3, none⟩) (Nat.le_refl _) (Value.int .i64 p)) : Below w.heap.size w ((((W5.setCell ⟨w.heap.size, 0, none⟩ (Value.int .u8 4)).setCell ⟨w.heap.size, 1, none⟩ (Value.string T)).setCell ⟨w.heap.size, 2, none⟩ (Value.int .i64 0)).setCell ⟨w.heap.size, 3, none⟩ (Value.int .i64 p)))
      generalize ((((W5.setCell ⟨w.heap.size, 0, none⟩ (Value.int .u8 4)).setCell ⟨w.heap.size, 1, none⟩ (Value.string T)).setCell ⟨w.heap.size, 2, none⟩ (Value.int .i64 0)).setCell ⟨w.heap.size, 3, none⟩ (Value.int .i64 p)) = WF at *
      have z0 : WF.cell? ⟨w.heap.size, 0, none⟩ = some (Value.int .u8 4) := rF.out.cell 0
      have z1 : WF.cell? ⟨w.heap.size, 1, none⟩ = some (Value.string T) := rF.out.cell 1
      have z2 : WF.cell? ⟨w.heap.size, 2, none⟩ = some (Value.int .i64 0) := rF.out.cell 2
      have z3 : WF.cell? ⟨w.heap.size, 3, none⟩ = some (Value.int .i64 p) := rF.out.cell 3
      refine bodyPost_ret (v := .tuple #[.agg #[Value.int .u8 4, Value.string T, Value.int .i64 0, Value.int .i64 p], .int .i64 0]) ?_ rfl ⟨oneOut_ok (HOUT.out.trans (by rw [HX.out]; rfl)) HTT.out rfl, bF.out⟩
      simp [results, Tryd.results24, go_sem, z0, z1, z2, z3]

theorem one_any (s : ByteArray) (p : Nat) (w : World) (hp : p < s.size) (hs : s.size ≤ 1000000) :
    Calls Tryd.prog 24 #[.string s, .int .i64 p] w fun e w' => OneOut (s.data.toList.drop p) p e ∧ Below w.heap.size w w' := by
  cases hl : isLet s[p]
  · cases hd : isDig s[p]
    · exact one_mark s p w hp hs hl hd
    · exact one_dig s p w hp hs hl hd
  · exact one_let s p w hp hs hl
end Go.Proofs.YtdbkchngpbahaaaDoor
