/- The walk over the statements' closed part 'works': it answers true. By an AI agent. -/
import Derived.Test.YtadcegfdojocmaaDoorWalkF
namespace Go.Proofs.YtadcegfdojocmaaDoor
open Go.RowKit

set_option maxHeartbeats 400000 in
theorem p_any (n : Int) (w : World) :
    Calls Tryd.prog 28 #[.int .i64 n] w fun e w' => e = .returned (.agg #[.int .u8 2, .int .i64 n]) ∧ Below w.heap.size w w' := by
  go_enter Tryd.func28, Tryd.ntmps28
  go_wp2
  simp [bodyPost, results, Tryd.results28, go_sem]
  exact ((Below.refl _ _).alloc (Nat.le_refl _) _)

def kl : Nat → Int := fun i => if i = 0 then 2 else if i = 1 then 2 else 3
def ml : Nat → Int := fun i => if i = 0 then 1 else if i = 1 then 2 else 7

theorem EvS.alloc {w : World} {a : Option Addr} {n : Nat} {k m : Nat → Int} (h : EvS w a n k m) (o : Obj) : EvS (w.alloc o) a n k m := h.below ((Below.refl _ _).alloc (Nat.le_refl _) _)
theorem EvS.later {w w' : World} {a : Option Addr} {n : Nat} {k m : Nat → Int} (hb : Below w.heap.size w w') (h : EvS w a n k m) : EvS w' a n k m := h.below hb
theorem EvS.new2 (w : World) (k0 m0 k1 m1 : Int) : EvS (w.alloc (.cells #[.int .u8 k0, .int .i64 m0, .int .u8 k1, .int .i64 m1] 44)) (some ⟨w.heap.size, 0, none⟩) 2 (two k0 k1) (two m0 m1) := by
  refine Or.inr ⟨_, 0, rfl, fun i hi => ?_, fun i hi => ?_⟩
  · match i, hi with
    | 0, _ => simp [two]
    | 1, _ => simp [two]
  · match i, hi with
    | 0, _ => simp [two]
    | 1, _ => simp [two]
theorem EvS.new2' (w : World) (k0 m0 k1 m1 : Int) (b : Nat) (hb : b = w.heap.size) : EvS (w.alloc (.cells #[.int .u8 k0, .int .i64 m0, .int .u8 k1, .int .i64 m1] 44)) (some ⟨b, 0, none⟩) 2 (two k0 k1) (two m0 m1) := by
  subst hb; exact EvS.new2 w k0 m0 k1 m1
theorem EvS.new3 (w : World) : EvS (w.alloc (.cells #[.int .u8 2, .int .i64 1, .int .u8 2, .int .i64 2, .int .u8 3, .int .i64 7] 44)) (some ⟨w.heap.size, 0, none⟩) 3 kl ml := by
  refine Or.inr ⟨_, 0, rfl, fun i hi => ?_, fun i hi => ?_⟩
  · match i, hi with
    | 0, _ => simp [kl]
    | 1, _ => simp [kl]
    | 2, _ => simp [kl]
  · match i, hi with
    | 0, _ => simp [ml]
    | 1, _ => simp [ml]
    | 2, _ => simp [ml]

theorem keepS {w W W' : World} {b bl : Nat} (hb : Below W.heap.size W W')
    (h : EvS W (some ⟨bl, 0, none⟩) 3 kl ml ∧ W.cell? ⟨b, 0, none⟩ = some (.int .u8 4) ∧ W.cell? ⟨b, 1, none⟩ = some (.int .i64 3) ∧ Below w.heap.size w W) :
    EvS W' (some ⟨bl, 0, none⟩) 3 kl ml ∧ W'.cell? ⟨b, 0, none⟩ = some (.int .u8 4) ∧ W'.cell? ⟨b, 1, none⟩ = some (.int .i64 3) ∧ Below w.heap.size w W' :=
  ⟨h.1.below hb, cell_later hb h.2.1, cell_later hb h.2.2.1, below_next h.2.2.2 hb⟩

theorem evOfS {w W : World} {b bl : Nat}
    (h : EvS W (some ⟨bl, 0, none⟩) 3 kl ml ∧ W.cell? ⟨b, 0, none⟩ = some (.int .u8 4) ∧ W.cell? ⟨b, 1, none⟩ = some (.int .i64 3) ∧ Below w.heap.size w W) : EvS W (some ⟨bl, 0, none⟩) 3 kl ml := h.1

theorem belowOfS {w W : World} {b bl : Nat}
    (h : EvS W (some ⟨bl, 0, none⟩) 3 kl ml ∧ W.cell? ⟨b, 0, none⟩ = some (.int .u8 4) ∧ W.cell? ⟨b, 1, none⟩ = some (.int .i64 3) ∧ Below w.heap.size w W) : Below w.heap.size w W := h.2.2.2

theorem right_v (a : Option Addr) (n c : Nat) (k m : Nat → Int) (v : Bool) (w : World) (hn : n ≤ 1000000) (h : EvS w a n k m) (hv : rgt n k = v) :
    Calls Tryd.prog 14 #[.slice a n c] w fun e w' => e = .returned (.bool v) ∧ Below w.heap.size w w' := hv ▸ right_any a n c k m w hn h
theorem ended_v (a : Option Addr) (n c : Nat) (k m : Nat → Int) (v : Bool) (w : World) (hn : n ≤ 1000000) (h : EvS w a n k m) (hv : end' n k = v) :
    Calls Tryd.prog 16 #[.slice a n c] w fun e w' => e = .returned (.bool v) ∧ Below w.heap.size w w' := hv ▸ ended_any a n c k m w hn h
theorem follows_v (a a' : Option Addr) (n c n' c' : Nat) (k m k' m' : Nat → Int) (v : Bool) (w : World) (hn : n ≤ 1000000) (hc : n ≤ c) (hn' : n' ≤ 1000000) (hc' : n' ≤ c') (h : EvS w a n k m) (h' : EvS w a' n' k' m') (hv : fol n k m n' k' m' = v) :
    Calls Tryd.prog 12 #[.slice a n c, .slice a' n' c'] w fun e w' => e = .returned (.bool v) ∧ Below w.heap.size w w' := hv ▸ follows_any a a' n c n' c' k m k' m' w hn hc hn' hc' h h'
theorem apart_v (a1 a2 : Option Addr) (n1 n2 c1 c2 : Nat) (k1 m1 k2 m2 : Nat → Int) (v : Int) (w : World) (hn1 : n1 ≤ 1000000) (hn2 : n2 ≤ 1000000)
    (h1 : EvS w a1 n1 k1 m1) (h2 : EvS w a2 n2 k2 m2) (hv : fd (min n1 n2) k1 m1 k2 m2 = v) :
    Calls Tryd.prog 13 #[.slice a1 n1 c1, .slice a2 n2 c2] w fun e w' => e = .returned (.int .i64 v) ∧ Below w.heap.size w w' := hv ▸ apart_any a1 a2 n1 n2 c1 c2 k1 m1 k2 m2 w hn1 hn2 h1 h2

theorem text_kl : textB 3 kl ml = [80, 49, 32, 80, 50, 32, 69, 55] := by decide +kernel
theorem text_v (b c : Nat) (w : World) (henv : Env w) (h : EvS w (some ⟨b, 0, none⟩) 3 kl ml) :
    Calls Tryd.prog 24 #[.slice (some ⟨b, 0, none⟩) 3 c] w fun e w' => e = .returned (.tuple #[.string ⟨#[80, 49, 32, 80, 50, 32, 69, 55]⟩, .int .i64 0]) ∧ Below w.heap.size w w' := by
  have := text_any (some ⟨b, 0, none⟩) 3 c kl ml w (by omega) henv h (fun i hi => by match i, hi with | 0, _ => decide | 1, _ => decide | 2, _ => decide)
  rw [if_pos (by decide), text_kl] at this
  exact this

set_option maxRecDepth 100000 in
set_option maxHeartbeats 8000000 in
theorem works_any (w : World) (henv : Env w) : Calls Tryd.prog 8 #[] w fun e w' => e = .returned (.bool true) ∧ Below w.heap.size w w' := by
  have HENV := Lib.hid henv; clear henv
  go_enter Tryd.func8, Tryd.ntmps8
  go_wp2_with fail
  go_region_held3 (fun W => W.cell? ⟨w.heap.size, 0, none⟩ = some (.int .u8 3) ∧ W.cell? ⟨w.heap.size, 1, none⟩ = some (.int .i64 7) ∧ W.cell? ⟨w.heap.size + 1, 0, none⟩ = some (.int .u8 4) ∧ W.cell? ⟨w.heap.size + 1, 1, none⟩ = some (.int .i64 3))
    (first | go_keep | (go_split_ands; exact ⟨cell_later (by assumption) (by assumption), cell_later (by assumption) (by assumption), cell_later (by assumption) (by assumption), cell_later (by assumption) (by assumption)⟩))
    (first
      | (go_at_call_of 28 (Value.int .i64 1); refine (p_any 1 _).mono ?_; rintro e w1 ⟨rfl, hb1⟩)
      | (go_at_call_of 28 (Value.int .i64 2); refine (p_any 2 _).mono ?_; rintro e w2 ⟨rfl, hb2⟩))
  have hs : ∀ i v, ((w.alloc (Obj.cells #[Value.int IntKind.u8 3, Value.int IntKind.i64 7] 44)).alloc (Obj.cells #[Value.int IntKind.u8 4, Value.int IntKind.i64 3] 44)).drew.cell? ⟨w.heap.size + 1, i, none⟩ = some v →
      (w2.alloc (Obj.cells #[Value.int IntKind.u8 2, Value.int IntKind.i64 1, Value.int IntKind.u8 2, Value.int IntKind.i64 2, Value.int IntKind.u8 3, Value.int IntKind.i64 7] 44)).cell? ⟨w.heap.size + 1, i, none⟩ = some v :=
    fun i v h => cell_later ((Below.refl _ _).alloc (Nat.le_refl _) _) (cell_later hb2 (cell_later hb1 h))
  have hs0 := hs 0 (.int .u8 4) (by simp)
  have hs1 := hs 1 (.int .i64 3) (by simp)
  clear hs
  have hev := EvS.new3 w2
  have hbw : Below w.heap.size w (w2.alloc (Obj.cells #[Value.int IntKind.u8 2, Value.int IntKind.i64 1, Value.int IntKind.u8 2, Value.int IntKind.i64 2, Value.int IntKind.u8 3, Value.int IntKind.i64 7] 44)) := by
    refine below_next (below_next ?_ hb2) ((Below.refl _ _).alloc (Nat.le_refl _) _)
    refine below_next ?_ hb1
    exact (((Below.refl _ _).alloc (Nat.le_refl _) _).alloc (by simp) _).drew
  generalize hWL : (w2.alloc (Obj.cells #[Value.int IntKind.u8 2, Value.int IntKind.i64 1, Value.int IntKind.u8 2, Value.int IntKind.i64 2, Value.int IntKind.u8 3, Value.int IntKind.i64 7] 44)) = wl at *
  clear hWL hb2 hb1
  generalize w2.heap.size = bl at *
  have HS := Lib.hid (And.intro hev (And.intro hs0 (And.intro hs1 hbw)))
  clear hev hs0 hs1 hbw
  go_wp2_with fail
  refine (text_v bl 3 _ (HENV.out.below HS.out.2.2.2) HS.out.1).mono ?_; rintro e w3 ⟨rfl, hb3⟩
  have HS3 := Lib.hid (keepS hb3 HS.out)
  go_wp2_with fail
  go_region_held3 (fun W => EvS W (some ⟨bl, 0, none⟩) 3 kl ml ∧ W.cell? ⟨w.heap.size + 1, 0, none⟩ = some (.int .u8 4) ∧ W.cell? ⟨w.heap.size + 1, 1, none⟩ = some (.int .i64 3) ∧ Below w.heap.size w W)
    (first | exact keepS (by assumption) (by assumption) | exact keepS ((Below.refl _ _).alloc (Nat.le_refl _) _) (by assumption) | exact keepS (Below.refl _ _).drew HS3.out)
    (first
      | (go_at_call 28; refine (p_any _ _).mono ?_; rintro e wa ⟨rfl, hba⟩)
      | (go_at_call 16; refine (ended_v _ 3 3 kl ml true _ (by omega) (evOfS (by assumption)) (by decide)).mono ?_; rintro e wa ⟨rfl, hba⟩)
      | (go_at_call 14; ((with_reducible refine (right_v (some ⟨bl, 0, none⟩) 3 3 kl ml true _ (by omega) (evOfS (by assumption)) (by decide)).mono ?_); rintro e wa ⟨rfl, hba⟩))
      | (go_at_call 14; ((with_reducible refine (right_v _ 2 2 (two 4 2) (two 3 1) false _ (by omega) (by repeat (first | (refine EvS.new2' _ _ _ _ _ _ ?_; simp; done) | exact evOfS (by assumption) | refine EvS.later (by assumption) ?_ | refine EvS.alloc ?_ _)) (by decide)).mono ?_); rintro e wa ⟨rfl, hba⟩))
      | (go_at_call 12; ((with_reducible refine (follows_v (some ⟨bl, 0, none⟩) (some ⟨bl, 0, none⟩) 3 3 3 3 kl ml kl ml true _ (by omega) (by omega) (by omega) (by omega) (evOfS (by assumption)) (evOfS (by assumption)) (by decide)).mono ?_); rintro e wa ⟨rfl, hba⟩))
      | (go_at_call 12; ((with_reducible refine (follows_v _ (some ⟨bl, 0, none⟩) 2 2 3 3 (two 2 4) (two 1 3) kl ml true _ (by omega) (by omega) (by omega) (by omega) (by repeat (first | (refine EvS.new2' _ _ _ _ _ _ ?_; simp; done) | exact evOfS (by assumption) | refine EvS.later (by assumption) ?_ | refine EvS.alloc ?_ _)) (evOfS (by assumption)) (by decide)).mono ?_); rintro e wa ⟨rfl, hba⟩))
      | (go_at_call 13; ((with_reducible refine (apart_v (some ⟨bl, 0, none⟩) (some ⟨bl, 0, none⟩) 1 2 3 3 kl ml kl ml (-1) _ (by omega) (by omega) ((evOfS (by assumption)).take _ (by omega)) ((evOfS (by assumption)).take _ (by omega)) (by decide)).mono ?_); rintro e wa ⟨rfl, hba⟩))
      | (go_at_call 13; ((with_reducible refine (apart_v _ _ 2 2 2 2 (two 2 2) (two 1 2) (two 2 2) (two 1 3) 1 _ (by omega) (by omega) (by repeat (first | (refine EvS.new2' _ _ _ _ _ _ ?_; simp; done) | exact evOfS (by assumption) | refine EvS.later (by assumption) ?_ | refine EvS.alloc ?_ _)) (by repeat (first | (refine EvS.new2' _ _ _ _ _ _ ?_; simp; done) | exact evOfS (by assumption) | refine EvS.later (by assumption) ?_ | refine EvS.alloc ?_ _)) (by decide)).mono ?_); rintro e wa ⟨rfl, hba⟩)))
  all_goals
    go_wp2_with fail
    go_ret
    exact ⟨rfl, belowOfS (by assumption)⟩

end Go.Proofs.YtadcegfdojocmaaDoor
