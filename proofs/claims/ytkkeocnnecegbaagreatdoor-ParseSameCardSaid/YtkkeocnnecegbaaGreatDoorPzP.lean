/- A tree made by hand, opened: a slice of nodes, each with a slice of numbers. By an AI agent. -/
import Derived.Test.YtkkeocnnecegbaaGreatDoorJG
namespace Go.Proofs.YtkkeocnnecegbaaGreatDoor
open Go.ChangeShapes Go.WideShapes Go.ChangeAt Go.RowKit Go.Deep

theorem cells43 : Tryz.prog.cellsOf 43 = 5 := by kernel_rfl
theorem cells41 : Tryz.prog.cellsOf 41 = 1 := by kernel_rfl
theorem cells22 : Tryz.prog.cellsOf 22 = 1 := by kernel_rfl
theorem cells24 : Tryz.prog.cellsOf 24 = 1 := by kernel_rfl
theorem cells2 : Tryz.prog.cellsOf 2 = 1 := by kernel_rfl
theorem cells3 : Tryz.prog.cellsOf 3 = 1 := by kernel_rfl
theorem five_of {α : Type} {l : List α} {n : Nat} (h : l.length = n) (hn : n = 5 := by rfl) : ∃ a b c d e, l = [a, b, c, d, e] := by
  subst hn
  match l, h with
  | [a, b, c, d, e], _ => exact ⟨a, b, c, d, e, rfl⟩
theorem sole_of {α : Type} {l : List α} {n : Nat} (h : l.length = n) (hn : n = 1 := by rfl) : ∃ a, l = [a] := by
  subst hn
  match l, h with
  | [a], _ => exact ⟨a, rfl⟩

/-- A slice of numbers. -/
theorem open_ints {H : Type} {enc : TypeId × Value → H} {w : World} {base : Nat} {spare : Nat → Bool} {held : Bool} {n : Nat} {v : Value} {x : DataW H × List MemPlace}
    (h : DataW.trod enc Tryz.prog w base spare held n 41 [v] = some x) : ∃ ks, IntsV w v ks := by
  rcases open_slice1 Tryz.underlying41 cells3 h with ⟨hcs, _⟩ | ⟨a, len, cap, m, n', V, D, Pl, hcs, hb, hlc, hcm, hm, _, hi⟩
  · simp at hcs
    subst hcs
    exact ⟨[], none, 0, rfl, Nat.le_refl _, Or.inl rfl⟩
  · simp at hcs
    subst hcs
    have hlm : len ≤ m := by rw [hm]; split <;> omega
    have hev : ∀ i, ∃ k : Int, i < len → w.cell? (a.add i) = some (.int .i64 k) := by
      intro i
      by_cases hil : i < len
      · obtain ⟨h1, h2⟩ := hi i (by omega)
        obtain ⟨k, e0, _, _⟩ := DataW.trod_int Tryz.underlying3 h2
        simp at e0
        rw [e0] at h1
        exact ⟨k, fun _ => h1⟩
      · exact ⟨0, fun h => absurd h hil⟩
    obtain ⟨f, hfe⟩ := Classical.axiomOfChoice hev
    have hlen : ((List.range len).map f).length = len := by simp
    refine ⟨(List.range len).map f, some a, cap, by rw [hlen], by rw [hlen]; exact hlc, ?_⟩
    by_cases h0 : len = 0
    · subst h0; exact Or.inl rfl
    · have hz := hfe 0 (by omega)
      obtain ⟨b, o, sp⟩ := a
      have hsp : sp = none := by
        simp only [Addr.add, if_true] at hz
        unfold World.cell? at hz
        cases sp with
        | none => rfl
        | some q => split at hz <;> simp_all
      subst hsp
      refine Or.inr ⟨b, o, rfl, fun i k hk => ?_⟩
      obtain ⟨hi', rfl⟩ := List.getElem?_eq_some_iff.1 hk
      rw [hlen] at hi'
      have := hfe i hi'
      rw [List.getElem_map, List.getElem_range]
      by_cases hz : i = 0
      · subst hz; simpa [Addr.add] using this
      · rw [Addr.add, if_neg (by omega)] at this; exact this

set_option maxRecDepth 100000 in
/-- One node: five cells, read. -/
theorem open_node {H : Type} {enc : TypeId × Value → H} {w : World} {base : Nat} {spare : Nat → Bool} {held : Bool} {n : Nat} {a : Addr} {x : DataW H × List MemPlace}
    (h : ∃ cs, w.cells? base a 5 = some cs ∧ DataW.trod enc Tryz.prog w base spare held n 43 cs = some x) :
    ∃ g : PV, w.cell? a = some (.int .u8 g.1.kind) ∧ w.cell? (a.add 1) = some (.string ⟨g.1.text.toArray⟩) ∧ w.cell? (a.add 2) = some (.int .i64 g.1.n) ∧ w.cell? (a.add 3) = some (.int .i64 g.1.at') ∧ w.cell? (a.add 4) = some g.2 ∧ IntsV w g.2 g.1.kids := by
  obtain ⟨cs, hc, ht⟩ := h
  obtain ⟨_, hl, hat⟩ := World.cells?_some hc
  obtain ⟨xs, n', _, _, _, hxl, hf⟩ := DataW.trod_struct Tryz.underlying43 ht
  have f0 := hf 0 _ rfl
  have f1 := hf 1 _ rfl
  have f2 := hf 2 _ rfl
  have f3 := hf 3 _ rfl
  have f4 := hf 4 _ rfl
  obtain ⟨c0, c1, c2, c3, c4, rfl⟩ := five_of hl
  obtain ⟨x0, x1, x2, x3, x4, rfl⟩ := five_of hxl
  have g0 : DataW.trod enc Tryz.prog w base spare held n' 5 (([c0, c1, c2, c3, c4].drop 0).take (Tryz.prog.cellsOf 5)) = some x0 := f0
  have g1 : DataW.trod enc Tryz.prog w base spare held n' 9 (([c0, c1, c2, c3, c4].drop 1).take (Tryz.prog.cellsOf 9)) = some x1 := f1
  have g2 : DataW.trod enc Tryz.prog w base spare held n' 2 (([c0, c1, c2, c3, c4].drop 2).take (Tryz.prog.cellsOf 2)) = some x2 := f2
  have g3 : DataW.trod enc Tryz.prog w base spare held n' 3 (([c0, c1, c2, c3, c4].drop 3).take (Tryz.prog.cellsOf 3)) = some x3 := f3
  have g4 : DataW.trod enc Tryz.prog w base spare held n' 41 (([c0, c1, c2, c3, c4].drop 4).take (Tryz.prog.cellsOf 41)) = some x4 := f4
  rw [cells5] at g0
  rw [cells9] at g1
  rw [cells2] at g2
  rw [cells3] at g3
  rw [cells41] at g4
  obtain ⟨k, e0, _, w0⟩ := DataW.trod_int Tryz.underlying5 g0
  obtain ⟨s, e1, _, _⟩ := DataW.trod_string Tryz.underlying9 g1
  obtain ⟨m, e2, _, _⟩ := DataW.trod_int Tryz.underlying2 g2
  obtain ⟨p, e3, _, _⟩ := DataW.trod_int Tryz.underlying3 g3
  have g4' : DataW.trod enc Tryz.prog w base spare held n' 41 [c4] = some x4 := g4
  obtain ⟨ks, hks⟩ := open_ints g4'
  simp at e0 e1 e2 e3
  subst e0 e1 e2 e3
  have hk := bounds_u8 w0
  refine ⟨(⟨k.toNat, s.data.toList, m, p, ks⟩, c4), ?_, hat 1 (by omega), hat 2 (by omega), hat 3 (by omega), hat 4 (by omega), hks⟩
  have := hat 0 (by omega)
  have e : ((k.toNat : Nat) : Int) = k := by omega
  simp only [e]
  simpa [Addr.add] using this

set_option maxRecDepth 100000 in
/-- A tree. -/
theorem open_tree {H : Type} {enc : TypeId × Value → H} {w : World} {base b0 : Nat} {spare : Nat → Bool} {held : Bool} {r : Reach} {v : Value} {d : DataW H} {p : List MemPlace}
    (hv : Value.okWide Tryz.prog w r b0 24 v) (h : DataW.Trod enc Tryz.prog w base spare held 24 v d p) :
    ∃ (a : Option Addr) (l : List PV) (c : Nat), v = .agg #[.slice a l.length c] ∧ NodR w a l := by
  obtain ⟨cs0, rfl, hsz⟩ := okWide_struct Tryz.underlying24 hv
  obtain ⟨fuel, hf⟩ := h
  obtain ⟨xs, n', _, _, _, hxl, hfs⟩ := DataW.trod_struct Tryz.underlying24 hf
  have f0 := hfs 0 _ rfl
  obtain ⟨x0, rfl⟩ := sole_of hxl
  obtain ⟨csl⟩ := cs0
  rw [cells24] at hsz
  obtain ⟨v0, rfl⟩ := sole_of (l := csl) (by simpa using hsz)
  have hcs : (Value.agg #[v0]).cells.toList = [v0] := rfl
  have g0 : DataW.trod enc Tryz.prog w base spare held n' 22 (((Value.agg #[v0]).cells.toList.drop 0).take (Tryz.prog.cellsOf 22)) = some x0 := f0
  rw [cells22, hcs] at g0
  have g0' : DataW.trod enc Tryz.prog w base spare held n' 22 [v0] = some x0 := g0
  rcases open_slice Tryz.underlying22 g0' with ⟨hcs, _⟩ | ⟨a, len, cap, m, n, D, Pl, hcs, hb, hlc, hcm, hm, _, hi⟩
  · simp at hcs
    subst hcs
    exact ⟨none, [], 0, rfl, Or.inl rfl⟩
  · simp at hcs
    subst hcs
    have hlm : len ≤ m := by rw [hm]; split <;> omega
    have hev : ∀ i, ∃ g : PV, i < len → w.cell? (a.add (i * 5)) = some (.int .u8 g.1.kind) ∧ w.cell? ((a.add (i * 5)).add 1) = some (.string ⟨g.1.text.toArray⟩) ∧ w.cell? ((a.add (i * 5)).add 2) = some (.int .i64 g.1.n) ∧ w.cell? ((a.add (i * 5)).add 3) = some (.int .i64 g.1.at') ∧ w.cell? ((a.add (i * 5)).add 4) = some g.2 ∧ IntsV w g.2 g.1.kids := by
      intro i
      by_cases hil : i < len
      · have h1 := hi i (by omega)
        rw [cells43] at h1
        obtain ⟨g, h2⟩ := open_node h1
        exact ⟨g, fun _ => h2⟩
      · exact ⟨(⟨0, [], 0, 0, []⟩, .int .u8 0), fun h => absurd h hil⟩
    obtain ⟨f, hfe⟩ := Classical.axiomOfChoice hev
    have hlen : ((List.range len).map f).length = len := by simp
    refine ⟨some a, (List.range len).map f, cap, by rw [hlen], ?_⟩
    by_cases h0 : len = 0
    · subst h0; exact Or.inl rfl
    · have hz := (hfe 0 (by omega)).1
      obtain ⟨b, o, sp⟩ := a
      have hsp : sp = none := by
        simp only [Nat.zero_mul, Addr.add, if_true] at hz
        unfold World.cell? at hz
        cases sp with
        | none => rfl
        | some q => split at hz <;> simp_all
      subst hsp
      refine Or.inr ⟨b, o, rfl, fun i g hg => ?_⟩
      obtain ⟨hi', rfl⟩ := List.getElem?_eq_some_iff.1 hg
      rw [hlen] at hi'
      have := hfe i hi'
      rw [List.getElem_map, List.getElem_range]
      unfold nodeAt
      by_cases hz : i = 0
      · subst hz; simpa [Addr.add] using this
      · simp only [Addr.add, if_neg (show ¬ i * 5 = 0 by omega), if_neg (show ¬ (1 : Nat) = 0 by omega), if_neg (show ¬ (2 : Nat) = 0 by omega), if_neg (show ¬ (3 : Nat) = 0 by omega), if_neg (show ¬ (4 : Nat) = 0 by omega)] at this
        exact this
end Go.Proofs.YtkkeocnnecegbaaGreatDoor
