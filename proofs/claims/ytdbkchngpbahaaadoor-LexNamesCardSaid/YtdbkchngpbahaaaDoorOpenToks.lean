/- A slice of tokens made by hand, opened. By an AI agent. -/
import Derived.Test.YtdbkchngpbahaaaDoorOpen
import Derived.Test.YtdbkchngpbahaaaDoorNamesC
namespace Go.Proofs.YtdbkchngpbahaaaDoor
open Go.ChangeShapes Go.WideShapes Go.ChangeAt Go.RowKit Go.Deep

theorem cells35 : Tryd.prog.cellsOf 35 = 4 := by kernel_rfl
theorem cells2 : Tryd.prog.cellsOf 2 = 1 := by kernel_rfl
theorem cells3 : Tryd.prog.cellsOf 3 = 1 := by kernel_rfl

theorem four_of {α : Type} {l : List α} {n : Nat} (h : l.length = n) (hn : n = 4 := by rfl) : ∃ a b c d, l = [a, b, c, d] := by
  subst hn
  match l, h with
  | [a, b, c, d], _ => exact ⟨a, b, c, d, rfl⟩

set_option maxRecDepth 100000 in
/-- One token: four cells, read. -/
theorem open_tok {H : Type} {enc : TypeId × Value → H} {w : World} {base : Nat} {spare : Nat → Bool} {held : Bool} {n : Nat} {a : Addr} {x : DataW H × List MemPlace}
    (h : ∃ cs, w.cells? base a 4 = some cs ∧ DataW.trod enc Tryd.prog w base spare held n 35 cs = some x) :
    ∃ g : GTok, w.cell? a = some (.int .u8 g.1.kind) ∧ w.cell? (a.add 1) = some (.string ⟨g.1.text.toArray⟩) ∧ w.cell? (a.add 2) = some (.int .i64 g.1.n) ∧ w.cell? (a.add 3) = some (.int .i64 g.2) := by
  obtain ⟨cs, hc, ht⟩ := h
  obtain ⟨_, hl, hat⟩ := World.cells?_some hc
  obtain ⟨xs, n', _, _, _, hxl, hf⟩ := DataW.trod_struct Tryd.underlying35 ht
  have f0 := hf 0 _ rfl
  have f1 := hf 1 _ rfl
  have f2 := hf 2 _ rfl
  have f3 := hf 3 _ rfl
  obtain ⟨c0, c1, c2, c3, rfl⟩ := four_of hl
  obtain ⟨x0, x1, x2, x3, rfl⟩ := four_of hxl
  have g0 : DataW.trod enc Tryd.prog w base spare held n' 5 (([c0, c1, c2, c3].drop 0).take (Tryd.prog.cellsOf 5)) = some x0 := f0
  have g1 : DataW.trod enc Tryd.prog w base spare held n' 9 (([c0, c1, c2, c3].drop 1).take (Tryd.prog.cellsOf 9)) = some x1 := f1
  have g2 : DataW.trod enc Tryd.prog w base spare held n' 2 (([c0, c1, c2, c3].drop 2).take (Tryd.prog.cellsOf 2)) = some x2 := f2
  have g3 : DataW.trod enc Tryd.prog w base spare held n' 3 (([c0, c1, c2, c3].drop 3).take (Tryd.prog.cellsOf 3)) = some x3 := f3
  rw [cells5] at g0
  rw [cells9] at g1
  rw [cells2] at g2
  rw [cells3] at g3
  obtain ⟨k, e0, _, w0⟩ := DataW.trod_int Tryd.underlying5 g0
  obtain ⟨s, e1, _, _⟩ := DataW.trod_string Tryd.underlying9 g1
  obtain ⟨m, e2, _, _⟩ := DataW.trod_int Tryd.underlying2 g2
  obtain ⟨p, e3, _, _⟩ := DataW.trod_int Tryd.underlying3 g3
  simp at e0 e1 e2 e3
  subst e0 e1 e2 e3
  have hk := bounds_u8 w0
  refine ⟨(⟨k.toNat, s.data.toList, m, 0⟩, p), ?_, hat 1 (by omega), hat 2 (by omega), hat 3 (by omega)⟩
  have := hat 0 (by omega)
  have e : ((k.toNat : Nat) : Int) = k := by omega
  simp only [e]
  simpa [Addr.add] using this

set_option maxRecDepth 100000 in
/-- A slice of tokens. -/
theorem open_toks {H : Type} {enc : TypeId × Value → H} {w : World} {base b0 : Nat} {spare : Nat → Bool} {held : Bool} {r : Reach} {v : Value} {d : DataW H} {p : List MemPlace}
    (hv : Value.okWide Tryd.prog w r b0 24 v) (h : DataW.Trod enc Tryd.prog w base spare held 24 v d p) :
    ∃ (a : Option Addr) (gs : List GTok) (c : Nat), v = .slice a gs.length c ∧ GTokS w a gs := by
  obtain ⟨a0, len0, cap0, rfl⟩ := okWide_slice Tryd.underlying24 hv
  obtain ⟨fuel, hf⟩ := h
  rcases open_slice Tryd.underlying24 hf with ⟨hcs, _⟩ | ⟨a, len, cap, m, n, D, Pl, hcs, hb, hlc, hcm, hm, _, hi⟩
  · simp [Value.cells] at hcs
    obtain ⟨rfl, rfl, rfl⟩ := hcs
    exact ⟨none, [], 0, rfl, Or.inl ⟨rfl, trivial⟩⟩
  · simp [Value.cells] at hcs
    obtain ⟨rfl, rfl, rfl⟩ := hcs
    have hlm : len0 ≤ m := by rw [hm]; split <;> omega
    have hev : ∀ i, ∃ g : GTok, i < len0 → w.cell? (a.add (i * 4)) = some (.int .u8 g.1.kind) ∧ w.cell? ((a.add (i * 4)).add 1) = some (.string ⟨g.1.text.toArray⟩) ∧ w.cell? ((a.add (i * 4)).add 2) = some (.int .i64 g.1.n) ∧ w.cell? ((a.add (i * 4)).add 3) = some (.int .i64 g.2) := by
      intro i
      by_cases hil : i < len0
      · have h1 := hi i (by omega)
        rw [cells35] at h1
        obtain ⟨g, h2⟩ := open_tok h1
        exact ⟨g, fun _ => h2⟩
      · exact ⟨(⟨0, [], 0, 0⟩, 0), fun h => absurd h hil⟩
    obtain ⟨f, hfe⟩ := Classical.axiomOfChoice hev
    have hlen : ((List.range len0).map f).length = len0 := by simp
    refine ⟨some a, (List.range len0).map f, cap0, by rw [hlen], ?_⟩
    by_cases h0 : len0 = 0
    · subst h0; exact Or.inl ⟨rfl, trivial⟩
    · have hz := (hfe 0 (by omega)).1
      obtain ⟨b, o, sp⟩ := a
      have hsp : sp = none := by
        simp only [Nat.zero_mul, Addr.add, if_true] at hz
        unfold World.cell? at hz
        cases sp with
        | none => rfl
        | some q => split at hz <;> simp_all
      subst hsp
      refine Or.inr ⟨b, o, rfl, fun i g hg => ?_⟩
      obtain ⟨hi', rfl⟩ := List.getElem?_eq_some_iff.1 hg
      rw [hlen] at hi'
      have := hfe i hi'
      rw [List.getElem_map, List.getElem_range]
      by_cases hz : i = 0
      · subst hz; simpa [Addr.add, gAt] using this
      · simp only [Addr.add, if_neg (show ¬ i * 4 = 0 by omega), if_neg (show ¬ (1 : Nat) = 0 by omega), if_neg (show ¬ (2 : Nat) = 0 by omega), if_neg (show ¬ (3 : Nat) = 0 by omega)] at this
        exact this
end Go.Proofs.YtdbkchngpbahaaaDoor
