/- The walk over long: how long a token of each kind at the beginning is. By an AI agent. -/
import Derived.Test.YtkkeocnnecegbaaGreatDoorWalkB
import Derived.Laws.EntriesVeiled
namespace Go.Proofs.YtkkeocnnecegbaaGreatDoor
open Go.RowKit

/-- A block that is known whole, none of its cells frozen. -/
def Blk (W : World) (g : Nat) (t : TypeId) (cs : Array Value) : Prop := W.heap[g]? = some (.cells cs t (0, 0))
section
variable {W W' : World} {g : Nat} {t : TypeId} {cs : Array Value}
theorem Blk.lt (h : Blk W g t cs) : g < W.heap.size := by
  rcases Nat.lt_or_ge g W.heap.size with hlt | hge
  · exact hlt
  · unfold Blk at h; rw [Array.getElem?_eq_none hge] at h; cases h
theorem Blk.cell (h : Blk W g t cs) (i : Nat) : W.cell? ⟨g, i, none⟩ = cs[i]? := by
  unfold Blk at h; unfold World.cell?; simp [h]
theorem Blk.free (h : Blk W g t cs) (i : Nat) : W.frozen? ⟨g, i, none⟩ = false := by
  unfold Blk at h; simp [World.frozen?, h]
theorem Blk.new (W : World) (t : TypeId) (cs : Array Value) : Blk (W.alloc (.cells cs t)) W.heap.size t cs := heap_alloc_new W _
theorem Blk.below (h : Blk W g t cs) (hb : Below W.heap.size W W') : Blk W' g t cs := (hb.block g h.lt).trans h
theorem Blk.alloc (h : Blk W g t cs) (o : Obj) : Blk (W.alloc o) g t cs := h.below ((Below.refl _ _).alloc (Nat.le_refl _) _)
theorem Blk.put (h : Blk W g t cs) (i : Nat) (u : Value) : Blk (W.setCell ⟨g, i, none⟩ u) g t (cs.setIfInBounds i u) := by
  unfold Blk at h ⊢
  simp [World.setCell, Array.getElem?_modify, h]
theorem Blk.far (h : Blk W g t cs) {g' : Nat} (hne : g ≠ g') (i : Nat) (u : Value) : Blk (W.setCell ⟨g', i, none⟩ u) g t cs := (Below.heap_setCell W ⟨g', i, none⟩ u g hne).trans h
end

set_option maxRecDepth 100000 in
set_option maxHeartbeats 4000000 in
theorem long_any (s : ByteArray) (w : World) (hs : s.size ≤ 1000000) (h0 : 0 < s.size) :
    Calls Tryz.prog 58 #[.string s] w fun e w' => e = .returned (.agg #[.int .i64 0, .int .i64 (nWord s.data.toList), .int .i64 0, .int .i64 (manyS isDig s.data.toList), .int .i64 (markLen s.data.toList)]) ∧ Below w.heap.size w w' := by
  generalize hA : nWord s.data.toList = A
  generalize hB : manyS isDig s.data.toList = B
  generalize hC : markLen s.data.toList = C
  have HA := Lib.hid hA; have HB := Lib.hid hB; have HC := Lib.hid hC
  clear hA hB hC
  have i0 : ∀ W, (Instr.index 168 (.agg #[.nilFunc, .func (.func 97) #[] #[.pointer (some ⟨w.heap.size, 0, none⟩)], .nilFunc, .func (.func 102) #[] #[.pointer (some ⟨w.heap.size, 0, none⟩)], .func (.func 103) #[] #[.pointer (some ⟨w.heap.size, 0, none⟩)]]) (.int .i64 0)).run Tryz.prog W = .ok (.nilFunc) W := fun _ => by kernel_rfl
  have i1 : ∀ W, (Instr.index 168 (.agg #[.nilFunc, .func (.func 97) #[] #[.pointer (some ⟨w.heap.size, 0, none⟩)], .nilFunc, .func (.func 102) #[] #[.pointer (some ⟨w.heap.size, 0, none⟩)], .func (.func 103) #[] #[.pointer (some ⟨w.heap.size, 0, none⟩)]]) (.int .i64 1)).run Tryz.prog W = .ok (.func (.func 97) #[] #[.pointer (some ⟨w.heap.size, 0, none⟩)]) W := fun _ => by kernel_rfl
  have i2 : ∀ W, (Instr.index 168 (.agg #[.nilFunc, .func (.func 97) #[] #[.pointer (some ⟨w.heap.size, 0, none⟩)], .nilFunc, .func (.func 102) #[] #[.pointer (some ⟨w.heap.size, 0, none⟩)], .func (.func 103) #[] #[.pointer (some ⟨w.heap.size, 0, none⟩)]]) (.int .i64 2)).run Tryz.prog W = .ok (.nilFunc) W := fun _ => by kernel_rfl
  have i3 : ∀ W, (Instr.index 168 (.agg #[.nilFunc, .func (.func 97) #[] #[.pointer (some ⟨w.heap.size, 0, none⟩)], .nilFunc, .func (.func 102) #[] #[.pointer (some ⟨w.heap.size, 0, none⟩)], .func (.func 103) #[] #[.pointer (some ⟨w.heap.size, 0, none⟩)]]) (.int .i64 3)).run Tryz.prog W = .ok (.func (.func 102) #[] #[.pointer (some ⟨w.heap.size, 0, none⟩)]) W := fun _ => by kernel_rfl
  have i4 : ∀ W, (Instr.index 168 (.agg #[.nilFunc, .func (.func 97) #[] #[.pointer (some ⟨w.heap.size, 0, none⟩)], .nilFunc, .func (.func 102) #[] #[.pointer (some ⟨w.heap.size, 0, none⟩)], .func (.func 103) #[] #[.pointer (some ⟨w.heap.size, 0, none⟩)]]) (.int .i64 4)).run Tryz.prog W = .ok (.func (.func 103) #[] #[.pointer (some ⟨w.heap.size, 0, none⟩)]) W := fun _ => by kernel_rfl
  have n0 : ∀ W, (binOp .neq 167 .nilFunc .nilFunc).run Tryz.prog W = .ok (.bool false) W := fun _ => by kernel_rfl
  have n35 : ∀ W, (binOp .neq 167 (.func (.func 97) #[] #[.pointer (some ⟨w.heap.size, 0, none⟩)]) .nilFunc).run Tryz.prog W = .ok (.bool true) W := fun _ => by kernel_rfl
  have n36 : ∀ W, (binOp .neq 167 (.func (.func 102) #[] #[.pointer (some ⟨w.heap.size, 0, none⟩)]) .nilFunc).run Tryz.prog W = .ok (.bool true) W := fun _ => by kernel_rfl
  have n37 : ∀ W, (binOp .neq 167 (.func (.func 103) #[] #[.pointer (some ⟨w.heap.size, 0, none⟩)]) .nilFunc).run Tryz.prog W = .ok (.bool true) W := fun _ => by kernel_rfl
  go_enter Tryz.func58, Tryz.ntmps58
  go_wp2_with fail
  refine wp_loop_rounds 6 ?_
  rw [rounds_succ]
  go_wp2_with fail
  rw [rounds_succ]
  go_wp2_with fail
  have sT0 := Lib.hid ((((Blk.new w 9 #[.string s]).alloc _).alloc _).alloc _ : Blk ((((w.alloc (.cells #[.string s] 9)).alloc (.cells #[.int .i64 0, .int .i64 0, .int .i64 0, .int .i64 0, .int .i64 0] 102)).alloc (.cells #[.int .i64 0, .int .i64 0, .int .i64 0, .int .i64 0, .int .i64 0] 102)).alloc (.cells #[.nilFunc, .func (.func 97) #[] #[.pointer (some ⟨w.heap.size, 0, none⟩)], .nilFunc, .func (.func 102) #[] #[.pointer (some ⟨w.heap.size, 0, none⟩)], .func (.func 103) #[] #[.pointer (some ⟨w.heap.size, 0, none⟩)]] 168)) w.heap.size 9 #[.string s])
  have rT0 : Hid (Blk ((((w.alloc (.cells #[.string s] 9)).alloc (.cells #[.int .i64 0, .int .i64 0, .int .i64 0, .int .i64 0, .int .i64 0] 102)).alloc (.cells #[.int .i64 0, .int .i64 0, .int .i64 0, .int .i64 0, .int .i64 0] 102)).alloc (.cells #[.nilFunc, .func (.func 97) #[] #[.pointer (some ⟨w.heap.size, 0, none⟩)], .nilFunc, .func (.func 102) #[] #[.pointer (some ⟨w.heap.size, 0, none⟩)], .func (.func 103) #[] #[.pointer (some ⟨w.heap.size, 0, none⟩)]] 168)) (w.heap.size + 1) 102 #[.int .i64 0, .int .i64 0, .int .i64 0, .int .i64 0, .int .i64 0]) := by
    have := ((Blk.new (w.alloc (.cells #[.string s] 9)) 102 #[.int .i64 0, .int .i64 0, .int .i64 0, .int .i64 0, .int .i64 0]).alloc (.cells #[.int .i64 0, .int .i64 0, .int .i64 0, .int .i64 0, .int .i64 0] 102)).alloc (.cells #[.nilFunc, .func (.func 97) #[] #[.pointer (some ⟨w.heap.size, 0, none⟩)], .nilFunc, .func (.func 102) #[] #[.pointer (some ⟨w.heap.size, 0, none⟩)], .func (.func 103) #[] #[.pointer (some ⟨w.heap.size, 0, none⟩)]] 168)
    exact Lib.hid (by simpa using this)
  have oT0 : Hid (Blk ((((w.alloc (.cells #[.string s] 9)).alloc (.cells #[.int .i64 0, .int .i64 0, .int .i64 0, .int .i64 0, .int .i64 0] 102)).alloc (.cells #[.int .i64 0, .int .i64 0, .int .i64 0, .int .i64 0, .int .i64 0] 102)).alloc (.cells #[.nilFunc, .func (.func 97) #[] #[.pointer (some ⟨w.heap.size, 0, none⟩)], .nilFunc, .func (.func 102) #[] #[.pointer (some ⟨w.heap.size, 0, none⟩)], .func (.func 103) #[] #[.pointer (some ⟨w.heap.size, 0, none⟩)]] 168)) (w.heap.size + 1 + 1) 102 #[.int .i64 0, .int .i64 0, .int .i64 0, .int .i64 0, .int .i64 0]) := by
    have := ((Blk.new ((w.alloc (.cells #[.string s] 9)).alloc (.cells #[.int .i64 0, .int .i64 0, .int .i64 0, .int .i64 0, .int .i64 0] 102)) 102 #[.int .i64 0, .int .i64 0, .int .i64 0, .int .i64 0, .int .i64 0])).alloc (.cells #[.nilFunc, .func (.func 97) #[] #[.pointer (some ⟨w.heap.size, 0, none⟩)], .nilFunc, .func (.func 102) #[] #[.pointer (some ⟨w.heap.size, 0, none⟩)], .func (.func 103) #[] #[.pointer (some ⟨w.heap.size, 0, none⟩)]] 168)
    exact Lib.hid (by simpa using this)
  have bT0 : Hid (Below w.heap.size w ((((w.alloc (.cells #[.string s] 9)).alloc (.cells #[.int .i64 0, .int .i64 0, .int .i64 0, .int .i64 0, .int .i64 0] 102)).alloc (.cells #[.int .i64 0, .int .i64 0, .int .i64 0, .int .i64 0, .int .i64 0] 102)).alloc (.cells #[.nilFunc, .func (.func 97) #[] #[.pointer (some ⟨w.heap.size, 0, none⟩)], .nilFunc, .func (.func 102) #[] #[.pointer (some ⟨w.heap.size, 0, none⟩)], .func (.func 103) #[] #[.pointer (some ⟨w.heap.size, 0, none⟩)]] 168))) := ((((Below.refl _ _).alloc (Nat.le_refl _) _).alloc (by simp) _).alloc (by simp; omega) _).alloc (by simp; omega) _
  generalize ((((w.alloc (.cells #[.string s] 9)).alloc (.cells #[.int .i64 0, .int .i64 0, .int .i64 0, .int .i64 0, .int .i64 0] 102)).alloc (.cells #[.int .i64 0, .int .i64 0, .int .i64 0, .int .i64 0, .int .i64 0] 102)).alloc (.cells #[.nilFunc, .func (.func 97) #[] #[.pointer (some ⟨w.heap.size, 0, none⟩)], .nilFunc, .func (.func 102) #[] #[.pointer (some ⟨w.heap.size, 0, none⟩)], .func (.func 103) #[] #[.pointer (some ⟨w.heap.size, 0, none⟩)]] 168)) = W0 at *
  refine (long1_any s _ _ hs h0 (sT0.out.cell 0)).mono ?_; rw [HA.out]; rintro e w1 ⟨rfl, hb1⟩
  have sS1 := Lib.hid (sT0.out.below hb1); have rS1 := Lib.hid (rT0.out.below hb1); have oS1 := oT0.out.below hb1
  have c1 : w1.cell? ⟨w.heap.size + 1 + 1, 1, none⟩ = some (.int .i64 0) := oS1.cell 1
  have f1 := oS1.free 1
  have OS1 := Lib.hid oS1
  clear oS1
  go_wp2_with fail
  clear c1 f1
  have sT1 := Lib.hid (sS1.out.far (by omega) 1 (.int .i64 A) : Blk (w1.setCell ⟨w.heap.size + 1 + 1, 1, none⟩ (.int .i64 A)) w.heap.size 9 #[.string s])
  have rT1 := Lib.hid (rS1.out.far (by omega) 1 (.int .i64 A) : Blk (w1.setCell ⟨w.heap.size + 1 + 1, 1, none⟩ (.int .i64 A)) (w.heap.size + 1) 102 #[.int .i64 0, .int .i64 0, .int .i64 0, .int .i64 0, .int .i64 0])
  have oT1 := Lib.hid (OS1.out.put 1 (.int .i64 A) : Blk (w1.setCell ⟨w.heap.size + 1 + 1, 1, none⟩ (.int .i64 A)) (w.heap.size + 1 + 1) 102 #[.int .i64 0, .int .i64 A, .int .i64 0, .int .i64 0, .int .i64 0])
  have bT1 := Lib.hid ((below_next bT0.out hb1).setCell (p := ⟨w.heap.size + 1 + 1, 1, none⟩) (show w.heap.size ≤ w.heap.size + 1 + 1 by omega) (.int .i64 A) : Below w.heap.size w (w1.setCell ⟨w.heap.size + 1 + 1, 1, none⟩ (.int .i64 A)))
  generalize (w1.setCell ⟨w.heap.size + 1 + 1, 1, none⟩ (.int .i64 A)) = W1 at *
  rw [rounds_succ]
  go_wp2_with fail
  rw [rounds_succ]
  go_wp2_with fail
  refine (long2_any s _ _ hs (sT1.out.cell 0)).mono ?_; rw [HB.out]; rintro e w2 ⟨rfl, hb2⟩
  have sS2 := Lib.hid (sT1.out.below hb2); have rS2 := Lib.hid (rT1.out.below hb2); have oS2 := oT1.out.below hb2
  have c2 : w2.cell? ⟨w.heap.size + 1 + 1, 3, none⟩ = some (.int .i64 0) := oS2.cell 3
  have f2 := oS2.free 3
  have OS2 := Lib.hid oS2
  clear oS2
  go_wp2_with fail
  clear c2 f2
  have sT2 := Lib.hid (sS2.out.far (by omega) 3 (.int .i64 B) : Blk (w2.setCell ⟨w.heap.size + 1 + 1, 3, none⟩ (.int .i64 B)) w.heap.size 9 #[.string s])
  have rT2 := Lib.hid (rS2.out.far (by omega) 3 (.int .i64 B) : Blk (w2.setCell ⟨w.heap.size + 1 + 1, 3, none⟩ (.int .i64 B)) (w.heap.size + 1) 102 #[.int .i64 0, .int .i64 0, .int .i64 0, .int .i64 0, .int .i64 0])
  have oT2 := Lib.hid (OS2.out.put 3 (.int .i64 B) : Blk (w2.setCell ⟨w.heap.size + 1 + 1, 3, none⟩ (.int .i64 B)) (w.heap.size + 1 + 1) 102 #[.int .i64 0, .int .i64 A, .int .i64 0, .int .i64 B, .int .i64 0])
  have bT2 := Lib.hid ((below_next bT1.out hb2).setCell (p := ⟨w.heap.size + 1 + 1, 3, none⟩) (show w.heap.size ≤ w.heap.size + 1 + 1 by omega) (.int .i64 B) : Below w.heap.size w (w2.setCell ⟨w.heap.size + 1 + 1, 3, none⟩ (.int .i64 B)))
  generalize (w2.setCell ⟨w.heap.size + 1 + 1, 3, none⟩ (.int .i64 B)) = W2 at *
  rw [rounds_succ]
  go_wp2_with fail
  refine (long3_any s _ _ hs h0 (sT2.out.cell 0)).mono ?_; rw [HC.out]; rintro e w3 ⟨rfl, hb3⟩
  have sS3 := Lib.hid (sT2.out.below hb3); have rS3 := Lib.hid (rT2.out.below hb3); have oS3 := oT2.out.below hb3
  have c3 : w3.cell? ⟨w.heap.size + 1 + 1, 4, none⟩ = some (.int .i64 0) := oS3.cell 4
  have f3 := oS3.free 4
  have OS3 := Lib.hid oS3
  clear oS3
  go_wp2_with fail
  clear c3 f3
  have sT3 := Lib.hid (sS3.out.far (by omega) 4 (.int .i64 C) : Blk (w3.setCell ⟨w.heap.size + 1 + 1, 4, none⟩ (.int .i64 C)) w.heap.size 9 #[.string s])
  have rT3 := Lib.hid (rS3.out.far (by omega) 4 (.int .i64 C) : Blk (w3.setCell ⟨w.heap.size + 1 + 1, 4, none⟩ (.int .i64 C)) (w.heap.size + 1) 102 #[.int .i64 0, .int .i64 0, .int .i64 0, .int .i64 0, .int .i64 0])
  have oT3 := Lib.hid (OS3.out.put 4 (.int .i64 C) : Blk (w3.setCell ⟨w.heap.size + 1 + 1, 4, none⟩ (.int .i64 C)) (w.heap.size + 1 + 1) 102 #[.int .i64 0, .int .i64 A, .int .i64 0, .int .i64 B, .int .i64 C])
  have bT3 := Lib.hid ((below_next bT2.out hb3).setCell (p := ⟨w.heap.size + 1 + 1, 4, none⟩) (show w.heap.size ≤ w.heap.size + 1 + 1 by omega) (.int .i64 C) : Below w.heap.size w (w3.setCell ⟨w.heap.size + 1 + 1, 4, none⟩ (.int .i64 C)))
  generalize (w3.setCell ⟨w.heap.size + 1 + 1, 4, none⟩ (.int .i64 C)) = W3 at *
  have o0 : W3.cell? ⟨w.heap.size + 1 + 1, 0, none⟩ = some (.int .i64 0) := oT3.out.cell 0
  have o1 : W3.cell? ⟨w.heap.size + 1 + 1, 1, none⟩ = some (.int .i64 A) := oT3.out.cell 1
  have o2 : W3.cell? ⟨w.heap.size + 1 + 1, 2, none⟩ = some (.int .i64 0) := oT3.out.cell 2
  have o3 : W3.cell? ⟨w.heap.size + 1 + 1, 3, none⟩ = some (.int .i64 B) := oT3.out.cell 3
  have o4 : W3.cell? ⟨w.heap.size + 1 + 1, 4, none⟩ = some (.int .i64 C) := oT3.out.cell 4
  have r0 : W3.cell? ⟨w.heap.size + 1, 0, none⟩ = some (.int .i64 0) := rT3.out.cell 0
  have r1 : W3.cell? ⟨w.heap.size + 1, 1, none⟩ = some (.int .i64 0) := rT3.out.cell 1
  have r2 : W3.cell? ⟨w.heap.size + 1, 2, none⟩ = some (.int .i64 0) := rT3.out.cell 2
  have r3 : W3.cell? ⟨w.heap.size + 1, 3, none⟩ = some (.int .i64 0) := rT3.out.cell 3
  have r4 : W3.cell? ⟨w.heap.size + 1, 4, none⟩ = some (.int .i64 0) := rT3.out.cell 4
  have q0 := rT3.out.free 0
  have q1 := rT3.out.free 1
  have q2 := rT3.out.free 2
  have q3 := rT3.out.free 3
  have q4 := rT3.out.free 4
  rw [rounds_succ]
  go_wp2_with fail
  have rF := Lib.hid (((((rT3.out.put 0 (.int .i64 0)).put 1 (.int .i64 A)).put 2 (.int .i64 0)).put 3 (.int .i64 B)).put 4 (.int .i64 C) : Blk (((((W3.setCell ⟨w.heap.size + 1, 0, none⟩ (.int .i64 0)).setCell ⟨w.heap.size + 1, 1, none⟩ (.int .i64 A)).setCell ⟨w.heap.size + 1, 2, none⟩ (.int .i64 0)).setCell ⟨w.heap.size + 1, 3, none⟩ (.int .i64 B)).setCell ⟨w.heap.size + 1, 4, none⟩ (.int .i64 C)) (w.heap.size + 1) 102 #[.int .i64 0, .int .i64 A, .int .i64 0, .int .i64 B, .int .i64 C])
  have bF := Lib.hid (((((bT3.out.setCell (p := ⟨w.heap.size + 1, 0, none⟩) (Nat.le_succ _) (.int .i64 0)).setCell (p := ⟨w.heap.size + 1, 1, none⟩) (Nat.le_succ _) (.int .i64 A)).setCell (p := ⟨w.heap.size + 1, 2, none⟩) (Nat.le_succ _) (.int .i64 0)).setCell (p := ⟨w.heap.size + 1, 3, none⟩) (Nat.le_succ _) (.int .i64 B)).setCell (p := ⟨w.heap.size + 1, 4, none⟩) (Nat.le_succ _) (.int .i64 C))
  generalize (((((W3.setCell ⟨w.heap.size + 1, 0, none⟩ (.int .i64 0)).setCell ⟨w.heap.size + 1, 1, none⟩ (.int .i64 A)).setCell ⟨w.heap.size + 1, 2, none⟩ (.int .i64 0)).setCell ⟨w.heap.size + 1, 3, none⟩ (.int .i64 B)).setCell ⟨w.heap.size + 1, 4, none⟩ (.int .i64 C)) = WF at *
  have z0 : WF.cell? ⟨w.heap.size + 1, 0, none⟩ = some (.int .i64 0) := rF.out.cell 0
  have z1 : WF.cell? ⟨w.heap.size + 1, 1, none⟩ = some (.int .i64 A) := rF.out.cell 1
  have z2 : WF.cell? ⟨w.heap.size + 1, 2, none⟩ = some (.int .i64 0) := rF.out.cell 2
  have z3 : WF.cell? ⟨w.heap.size + 1, 3, none⟩ = some (.int .i64 B) := rF.out.cell 3
  have z4 : WF.cell? ⟨w.heap.size + 1, 4, none⟩ = some (.int .i64 C) := rF.out.cell 4
  refine bodyPost_ret (v := .agg #[.int .i64 0, .int .i64 A, .int .i64 0, .int .i64 B, .int .i64 C]) ?_ rfl ⟨rfl, bF.out⟩
  simp [results, Tryz.results58, go_sem, z0, z1, z2, z3, z4]
  trace_state
end Go.Proofs.YtkkeocnnecegbaaGreatDoor
