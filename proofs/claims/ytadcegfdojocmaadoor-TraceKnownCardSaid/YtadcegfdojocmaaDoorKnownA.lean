/- The rows of TraceKnown, made in whatever order: each operation by itself. By an AI agent. -/
import Derived.Test.YtadcegfdojocmaaDoorPromise
import Derived.Test.YtadcegfdojocmaaDoorTellsWalk
namespace Go.Proofs.YtadcegfdojocmaaDoor
open Go.RowKit

/-- The cells of a list of events. -/
def flatE (L : List (Int × Int)) : List Value := L.flatMap fun x => [.int .u8 x.1, .int .i64 x.2]
/-- A slice of a block of its own, which holds these events. -/
def RowB (L : List (Int × Int)) (v : Value) (w : World) : Prop := ∃ b, v = .slice (some ⟨b, 0, none⟩) L.length L.length ∧ w.heap[b]? = some (.cells (flatE L).toArray 44 (0, 0))
/-- An event. -/
def EvV (k n : Int) (v : Value) (_ : World) : Prop := v = .agg #[.int .u8 k, .int .i64 n]
theorem RowB.below {L : List (Int × Int)} {v : Value} {w w' : World} (h : RowB L v w) (hb : Below w.heap.size w w') : RowB L v w' := by
  obtain ⟨b, hv, hc⟩ := h
  exact ⟨b, hv, (hb.block b (Array.getElem?_eq_some_iff.1 hc).1).trans hc⟩
/-- What a step leaves. -/
def Left (t : Nat) (Pr : Value → World → Prop) (a : Act) (w : World) (a' : Act) (w' : World) : Prop := ∃ v, a' = a.put (some t) v ∧ Pr v w' ∧ Below w.heap.size w w'

theorem left_same {t : Nat} {Pr : Value → World → Prop} {a : Act} {w w' : World} {v : Value} (hp : Pr v w') (hb : Below w.heap.size w w') : Left t Pr a w { tmps := a.tmps.setIfInBounds t v, defers := a.defers } w' := ⟨v, rfl, hp, hb⟩

theorem step_call (t : Nat) (n : Int) (p : String) (af : Array Edge) (a : Act) (w : World) (Q : Exit → Act → World → Prop) :
    Oper.wp Tryd.prog { dst := some t, op := .call { callee := .value (.func 28), args := #[.const (.int .i64 n)], argTypes := #[2] }, type := 44, pos := p, after := af, guard := none } a w (Left t (EvV 2 n) a w) Q := by
  unfold Oper.wp
  simp [execOp, go_sem, Oper.upon]
  refine (p_any n w).mono ?_
  rintro e w' ⟨rfl, hb⟩
  exact left_same rfl hb
theorem step_build (t : Nat) (k n : Int) (p : String) (af : Array Edge) (a : Act) (w : World) (Q : Exit → Act → World → Prop) :
    Oper.wp Tryd.prog { dst := some t, op := .build 44 #[(0, .const (.int .u8 k)), (1, .const (.int .i64 n))], type := 44, pos := p, after := af, guard := none } a w (Left t (EvV k n) a w) Q := by
  unfold Oper.wp
  simp [execOp, go_sem, Oper.upon]
  exact left_same rfl (Below.refl _ _)
theorem step_build0 (t : Nat) (k : Int) (p : String) (af : Array Edge) (a : Act) (w : World) (Q : Exit → Act → World → Prop) :
    Oper.wp Tryd.prog { dst := some t, op := .build 44 #[(0, .const (.int .u8 k))], type := 44, pos := p, after := af, guard := none } a w (Left t (EvV k 0) a w) Q := by
  unfold Oper.wp
  simp [execOp, go_sem, Oper.upon]
  exact left_same rfl (Below.refl _ _)
theorem step_load (t : Nat) (b : Nat) (p : String) (af : Array Edge) (a : Act) (w : World) (Q : Exit → Act → World → Prop) (h1 : a.tmps[1]? = some (.pointer (some ⟨b, 0, none⟩))) (hb : w.heap[b]? = some (.cells #[.int .u8 4, .int .i64 3] 44 (0, 0))) :
    Oper.wp Tryd.prog { dst := some t, op := .load 44 (.tmp 1), type := 44, pos := p, after := af, guard := none } a w (Left t (EvV 4 3) a w) Q := by
  have c0 : w.cell? ⟨b, 0, none⟩ = some (.int .u8 4) := by simp [World.cell?, hb]
  have c1 : w.cell? ⟨b, 1, none⟩ = some (.int .i64 3) := by simp [World.cell?, hb]
  unfold Oper.wp
  simp [execOp, go_sem, Oper.upon, h1, c0, c1]
  exact left_same rfl (Below.refl _ _)
set_option maxRecDepth 100000 in
theorem step_row1 (t i : Nat) (k n : Int) (p : String) (af : Array Edge) (a : Act) (w : World) (Q : Exit → Act → World → Prop) (h1 : ∃ v, a.tmps[i]? = some v ∧ EvV k n v w) :
    Oper.wp Tryd.prog { dst := some t, op := .buildSlice 22 1 #[(0, .tmp i)], type := 22, pos := p, after := af, guard := none } a w (Left t (RowB [(k, n)]) a w) Q := by
  obtain ⟨_, h1, rfl⟩ := h1
  unfold Oper.wp
  simp [execOp, go_sem, Oper.upon, h1]
  exact left_same ⟨_, rfl, World.alloc_heap_new _ _⟩ ((Below.refl _ _).alloc (Nat.le_refl _) _)
set_option maxRecDepth 100000 in
theorem step_row2 (t i j : Nat) (k n k' n' : Int) (p : String) (af : Array Edge) (a : Act) (w : World) (Q : Exit → Act → World → Prop) (h1 : ∃ v, a.tmps[i]? = some v ∧ EvV k n v w) (h2 : ∃ v, a.tmps[j]? = some v ∧ EvV k' n' v w) :
    Oper.wp Tryd.prog { dst := some t, op := .buildSlice 22 2 #[(0, .tmp i), (1, .tmp j)], type := 22, pos := p, after := af, guard := none } a w (Left t (RowB [(k, n), (k', n')]) a w) Q := by
  obtain ⟨_, h1, rfl⟩ := h1
  obtain ⟨_, h2, rfl⟩ := h2
  unfold Oper.wp
  simp [execOp, go_sem, Oper.upon, h1, h2]
  exact left_same ⟨_, rfl, World.alloc_heap_new _ _⟩ ((Below.refl _ _).alloc (Nat.le_refl _) _)
set_option maxRecDepth 100000 in
theorem step_row3 (t i j l : Nat) (k n k' n' k2 n2 : Int) (p : String) (af : Array Edge) (a : Act) (w : World) (Q : Exit → Act → World → Prop) (h1 : ∃ v, a.tmps[i]? = some v ∧ EvV k n v w) (h2 : ∃ v, a.tmps[j]? = some v ∧ EvV k' n' v w) (h3 : ∃ v, a.tmps[l]? = some v ∧ EvV k2 n2 v w) :
    Oper.wp Tryd.prog { dst := some t, op := .buildSlice 22 3 #[(0, .tmp i), (1, .tmp j), (2, .tmp l)], type := 22, pos := p, after := af, guard := none } a w (Left t (RowB [(k, n), (k', n'), (k2, n2)]) a w) Q := by
  obtain ⟨_, h1, rfl⟩ := h1
  obtain ⟨_, h2, rfl⟩ := h2
  obtain ⟨_, h3, rfl⟩ := h3
  unfold Oper.wp
  simp [execOp, go_sem, Oper.upon, h1, h2, h3]
  exact left_same ⟨_, rfl, World.alloc_heap_new _ _⟩ ((Below.refl _ _).alloc (Nat.le_refl _) _)
theorem step_assign (t i : Nat) (Pr : Value → World → Prop) (p : String) (af : Array Edge) (a : Act) (w : World) (Q : Exit → Act → World → Prop) (h1 : ∃ v, a.tmps[i]? = some v ∧ Pr v w) :
    Oper.wp Tryd.prog { dst := some t, op := .assign (.tmp i), type := 46, pos := p, after := af, guard := none } a w (Left t Pr a w) Q := by
  obtain ⟨v, h1, hp⟩ := h1
  unfold Oper.wp
  simp [execOp, go_sem, Oper.upon, h1]
  exact left_same hp (Below.refl _ _)
/-- The rows. -/
def rowsK : List (List (Int × Int)) := [[(2, 1)], [(2, 1), (2, 2)], [(2, 1), (2, 3)], [(2, 1), (4, 3)], [(4, 3)], [(2, 1), (2, 2), (3, 7)], [(1, -9223372036854775808), (1, 9223372036854775807)], [(4, 1)], [(0, 0)], [(5, 0)], [(4, 3), (2, 1)], [(3, 3)], [(2, 1), (4, 3), (4, 3)]]
/-- The row of rows. -/
def AllB (v : Value) (w : World) : Prop := ∃ (b : Nat) (vs : List Value), v = .slice (some ⟨b, 0, none⟩) 14 14 ∧ w.heap[b]? = some (.cells (.slice none 0 0 :: vs).toArray 22 (0, 0)) ∧ vs.length = 13 ∧ ∀ (i : Nat) L u, rowsK[i]? = some L → vs[i]? = some u → RowB L u w
theorem AllB.below {v : Value} {w w' : World} (h : AllB v w) (hb : Below w.heap.size w w') : AllB v w' := by
  obtain ⟨b, vs, hv, hc, hl, hr⟩ := h
  exact ⟨b, vs, hv, (hb.block b (Array.getElem?_eq_some_iff.1 hc).1).trans hc, hl, fun i L u h1 h2 => (hr i L u h1 h2).below hb⟩
set_option maxRecDepth 100000 in
set_option maxHeartbeats 2000000 in
theorem step_all (t t0 t1 t2 t3 t4 t5 t6 t7 t8 t9 t10 t11 t12 : Nat) (p : String) (af : Array Edge) (a : Act) (w : World) (Q : Exit → Act → World → Prop)
    (h0 : ∃ v, a.tmps[t0]? = some v ∧ RowB [(2, 1)] v w) (h1 : ∃ v, a.tmps[t1]? = some v ∧ RowB [(2, 1), (2, 2)] v w) (h2 : ∃ v, a.tmps[t2]? = some v ∧ RowB [(2, 1), (2, 3)] v w) (h3 : ∃ v, a.tmps[t3]? = some v ∧ RowB [(2, 1), (4, 3)] v w)
    (h4 : ∃ v, a.tmps[t4]? = some v ∧ RowB [(4, 3)] v w) (h5 : ∃ v, a.tmps[t5]? = some v ∧ RowB [(2, 1), (2, 2), (3, 7)] v w) (h6 : ∃ v, a.tmps[t6]? = some v ∧ RowB [(1, -9223372036854775808), (1, 9223372036854775807)] v w) (h7 : ∃ v, a.tmps[t7]? = some v ∧ RowB [(4, 1)] v w)
    (h8 : ∃ v, a.tmps[t8]? = some v ∧ RowB [(0, 0)] v w) (h9 : ∃ v, a.tmps[t9]? = some v ∧ RowB [(5, 0)] v w) (h10 : ∃ v, a.tmps[t10]? = some v ∧ RowB [(4, 3), (2, 1)] v w) (h11 : ∃ v, a.tmps[t11]? = some v ∧ RowB [(3, 3)] v w) (h12 : ∃ v, a.tmps[t12]? = some v ∧ RowB [(2, 1), (4, 3), (4, 3)] v w) :
    Oper.wp Tryd.prog { dst := some t, op := .buildSlice 46 14 #[(0, .const (.slice none 0 0)), (1, .tmp t0), (2, .tmp t1), (3, .tmp t2), (4, .tmp t3), (5, .tmp t4), (6, .tmp t5), (7, .tmp t6), (8, .tmp t7), (9, .tmp t8), (10, .tmp t9), (11, .tmp t10), (12, .tmp t11), (13, .tmp t12)], type := 46, pos := p, after := af, guard := none } a w (Left t AllB a w) Q := by
  obtain ⟨_, g0, b0, rfl, r0⟩ := h0
  obtain ⟨_, g1, b1, rfl, r1⟩ := h1
  obtain ⟨_, g2, b2, rfl, r2⟩ := h2
  obtain ⟨_, g3, b3, rfl, r3⟩ := h3
  obtain ⟨_, g4, b4, rfl, r4⟩ := h4
  obtain ⟨_, g5, b5, rfl, r5⟩ := h5
  obtain ⟨_, g6, b6, rfl, r6⟩ := h6
  obtain ⟨_, g7, b7, rfl, r7⟩ := h7
  obtain ⟨_, g8, b8, rfl, r8⟩ := h8
  obtain ⟨_, g9, b9, rfl, r9⟩ := h9
  obtain ⟨_, g10, b10, rfl, r10⟩ := h10
  obtain ⟨_, g11, b11, rfl, r11⟩ := h11
  obtain ⟨_, g12, b12, rfl, r12⟩ := h12
  unfold Oper.wp
  simp [execOp, go_sem, Oper.upon, g0, g1, g2, g3, g4, g5, g6, g7, g8, g9, g10, g11, g12]
  have hb : ∀ o, Below w.heap.size w (w.alloc o) := fun o => (Below.refl _ _).alloc (Nat.le_refl _) o
  refine left_same ⟨_, [_, _, _, _, _, _, _, _, _, _, _, _, _], rfl, World.alloc_heap_new _ _, rfl, ?_⟩ (hb _)
  intro i L u hL hu
  match i, hL, hu with
  | 0, hL, hu => cases hL; cases hu; exact RowB.below ⟨_, rfl, r0⟩ (hb _)
  | 1, hL, hu => cases hL; cases hu; exact RowB.below ⟨_, rfl, r1⟩ (hb _)
  | 2, hL, hu => cases hL; cases hu; exact RowB.below ⟨_, rfl, r2⟩ (hb _)
  | 3, hL, hu => cases hL; cases hu; exact RowB.below ⟨_, rfl, r3⟩ (hb _)
  | 4, hL, hu => cases hL; cases hu; exact RowB.below ⟨_, rfl, r4⟩ (hb _)
  | 5, hL, hu => cases hL; cases hu; exact RowB.below ⟨_, rfl, r5⟩ (hb _)
  | 6, hL, hu => cases hL; cases hu; exact RowB.below ⟨_, rfl, r6⟩ (hb _)
  | 7, hL, hu => cases hL; cases hu; exact RowB.below ⟨_, rfl, r7⟩ (hb _)
  | 8, hL, hu => cases hL; cases hu; exact RowB.below ⟨_, rfl, r8⟩ (hb _)
  | 9, hL, hu => cases hL; cases hu; exact RowB.below ⟨_, rfl, r9⟩ (hb _)
  | 10, hL, hu => cases hL; cases hu; exact RowB.below ⟨_, rfl, r10⟩ (hb _)
  | 11, hL, hu => cases hL; cases hu; exact RowB.below ⟨_, rfl, r11⟩ (hb _)
  | 12, hL, hu => cases hL; cases hu; exact RowB.below ⟨_, rfl, r12⟩ (hb _)
end Go.Proofs.YtadcegfdojocmaaDoor
