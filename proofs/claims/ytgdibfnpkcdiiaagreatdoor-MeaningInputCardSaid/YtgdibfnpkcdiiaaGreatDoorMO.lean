/- Joint text: HOpen, MOpen. By an AI agent. -/
import Derived.Test.YtgdibfnpkcdiiaaGreatDoorJA
import Derived.Test.YtgdibfnpkcdiiaaGreatDoorOpen
/- A program made by hand (three's), opened. By an AI agent. -/
namespace Go.Proofs.YtgdibfnpkcdiiaaGreatDoor
open Go.ChangeShapes Go.WideShapes Go.ChangeAt Go.RowKit Go.Deep

theorem cellsOf2 : Tryz.prog.cellsOf 2 = 1 := by kernel_rfl
theorem cellsOf3 : Tryz.prog.cellsOf 3 = 1 := by kernel_rfl
theorem cellsOf5 : Tryz.prog.cellsOf 5 = 1 := by kernel_rfl
theorem cellsOf9 : Tryz.prog.cellsOf 9 = 1 := by kernel_rfl
theorem cellsOf22 : Tryz.prog.cellsOf 22 = 1 := by kernel_rfl
theorem cellsOf23 : Tryz.prog.cellsOf 23 = 1 := by kernel_rfl
theorem cellsOf25 : Tryz.prog.cellsOf 25 = 3 := by kernel_rfl
theorem cellsOf37 : Tryz.prog.cellsOf 37 = 1 := by kernel_rfl
theorem cellsOf65 : Tryz.prog.cellsOf 65 = 1 := by kernel_rfl
theorem cellsOf67 : Tryz.prog.cellsOf 67 = 4 := by kernel_rfl
theorem cellsOf71 : Tryz.prog.cellsOf 71 = 10 := by kernel_rfl
theorem ten_of {α : Type} {l : List α} {n : Nat} (h : l.length = n) (hn : n = 10 := by rfl) : ∃ a0 a1 a2 a3 a4 a5 a6 a7 a8 a9, l = [a0, a1, a2, a3, a4, a5, a6, a7, a8, a9] := by
  subst hn
  match l, h with
  | [a0, a1, a2, a3, a4, a5, a6, a7, a8, a9], _ => exact ⟨a0, a1, a2, a3, a4, a5, a6, a7, a8, a9, rfl⟩
theorem four_of {α : Type} {l : List α} {n : Nat} (h : l.length = n) (hn : n = 4 := by rfl) : ∃ a0 a1 a2 a3, l = [a0, a1, a2, a3] := by
  subst hn
  match l, h with
  | [a0, a1, a2, a3], _ => exact ⟨a0, a1, a2, a3, rfl⟩
theorem three_of {α : Type} {l : List α} {n : Nat} (h : l.length = n) (hn : n = 3 := by rfl) : ∃ a0 a1 a2, l = [a0, a1, a2] := by
  subst hn
  match l, h with
  | [a0, a1, a2], _ => exact ⟨a0, a1, a2, rfl⟩
/-- Rows of z cells, each of which is read. -/
theorem rows_of {α : Type} [Inhabited α] (z : Nat) (R : World → Nat → Nat → α → Prop) (Ok : α → Prop) {w : World} {a : Addr} {len cap : Nat} (hlc : len ≤ cap)
    (h : ∀ i, i < len → ∃ x : α, (∃ u, w.cell? (a.add (i * z)) = some u) ∧ Ok x ∧ ∀ b o, a.add (i * z) = ⟨b, o, none⟩ → R w b o x) : ∃ l, RowsV z R w (.slice (some a) len cap) l ∧ ∀ x ∈ l, Ok x := by
  have hev : ∀ i, ∃ x : α, i < len → (∃ u, w.cell? (a.add (i * z)) = some u) ∧ Ok x ∧ ∀ b o, a.add (i * z) = ⟨b, o, none⟩ → R w b o x := fun i => by
    by_cases hi : i < len
    · obtain ⟨x, hx⟩ := h i hi; exact ⟨x, fun _ => hx⟩
    · exact ⟨default, fun h => absurd h hi⟩
  obtain ⟨f, hf⟩ := Classical.axiomOfChoice hev
  have hlen : ((List.range len).map f).length = len := by simp
  refine ⟨(List.range len).map f, ⟨some a, cap, by rw [hlen], by rw [hlen]; exact hlc, ?_⟩, fun x hx => ?_⟩
  · by_cases h0 : len = 0
    · subst h0; exact Or.inl rfl
    · obtain ⟨u, hz⟩ := (hf 0 (by omega)).1
      obtain ⟨b, o, sp⟩ := a
      have hsp : sp = none := by
        simp only [Nat.zero_mul, Addr.add, if_true] at hz
        unfold World.cell? at hz
        cases sp with
        | none => rfl
        | some q => split at hz <;> simp_all
      subst hsp
      refine Or.inr ⟨b, o, rfl, fun i g hg => ?_⟩
      obtain ⟨hi', rfl⟩ := List.getElem?_eq_some_iff.1 hg
      rw [hlen] at hi'
      rw [List.getElem_map, List.getElem_range]
      exact (hf i hi').2.2 _ _ (add_plain _ _ _)
  · obtain ⟨i, hi, rfl⟩ := List.mem_map.1 hx
    exact (hf i (List.mem_range.1 hi)).2.1
theorem cell_add {w : World} {b o i : Nat} {u : Option Value} (h : w.cell? ((⟨b, o, none⟩ : Addr).add i) = u) : w.cell? ⟨b, o + i, none⟩ = u := by rw [← add_plain]; exact h
instance : Inhabited InV := ⟨(⟨0, 0, 0, 0, 0, 0, [], 0, 0, 0⟩, .int .u8 0)⟩
instance : Inhabited FnG := ⟨⟨⟨[], 0, 0, []⟩, .int .u8 0, []⟩⟩
section
variable {H : Type} {enc : TypeId × Value → H} {w : World} {base : Nat} {spare : Nat → Bool} {held : Bool} {n : Nat}
theorem open_rows {α : Type} [Inhabited α] {t e : TypeId} (z : Nat) (R : World → Nat → Nat → α → Prop) (Ok : α → Prop) (ht : Tryz.prog.underlying t = some (.slice e)) (hz : Tryz.prog.cellsOf e = z)
    (one : ∀ (n : Nat) (a : Addr) (x : DataW H × List MemPlace), (∃ cs, w.cells? base a z = some cs ∧ DataW.trod enc Tryz.prog w base spare held n e cs = some x) → ∃ y : α, (∃ u, w.cell? a = some u) ∧ Ok y ∧ ∀ b o, a = ⟨b, o, none⟩ → R w b o y)
    {v : Value} {x : DataW H × List MemPlace} (h : DataW.trod enc Tryz.prog w base spare held n t [v] = some x) : ∃ l, RowsV z R w v l ∧ ∀ y ∈ l, Ok y := by
  rcases open_slice ht h with ⟨hcs, _⟩ | ⟨a, len, cap, m, n', D, Pl, hcs, hb, hlc, hcm, hm, _, hi⟩
  · simp at hcs
    subst hcs
    exact ⟨[], ⟨none, 0, rfl, Nat.le_refl _, Or.inl rfl⟩, fun y hy => by simp at hy⟩
  · simp at hcs
    subst hcs
    rw [hz] at hi
    have hlm : len ≤ m := by rw [hm]; split <;> omega
    exact rows_of z R Ok hlc fun i hil => one _ _ _ (hi i (by omega))
theorem open_numbers {v : Value} {x : DataW H × List MemPlace} (h : DataW.trod enc Tryz.prog w base spare held n 22 [v] = some x) : ∃ ks, IntsV w v ks ∧ ∀ k ∈ ks, I64 k :=
  open_rows 1 intAt I64 Tryz.underlying22 cellsOf3 (fun n a x ⟨cs, hc, ht⟩ => by
    obtain ⟨_, hl, hat⟩ := World.cells?_some hc
    match cs, hl with
    | [c], _ =>
      obtain ⟨k, e0, _, w0⟩ := DataW.trod_int Tryz.underlying3 ht
      simp at e0
      subst e0
      have h0 := hat 0 (by omega)
      have e : a.add 0 = a := by simp [Addr.add]
      rw [e] at h0
      exact ⟨k, ⟨_, h0⟩, bounds_i64 w0, fun b o hbo => by rw [hbo] at h0; exact h0⟩) h
theorem open_instr {a : Addr} {x : DataW H × List MemPlace} (h : ∃ cs, w.cells? base a 10 = some cs ∧ DataW.trod enc Tryz.prog w base spare held n 71 cs = some x) :
    ∃ y : InV, (∃ u, w.cell? a = some u) ∧ InOk y.1 ∧ ∀ b o, a = ⟨b, o, none⟩ → insAt w b o y := by
  obtain ⟨cs, hc, ht⟩ := h
  obtain ⟨_, hl, hat⟩ := World.cells?_some hc
  obtain ⟨xs, n', _, _, _, hxl, hf⟩ := DataW.trod_struct Tryz.underlying71 ht
  have f0 := hf 0 _ rfl
  have f1 := hf 1 _ rfl
  have f2 := hf 2 _ rfl
  have f3 := hf 3 _ rfl
  have f4 := hf 4 _ rfl
  have f5 := hf 5 _ rfl
  have f6 := hf 6 _ rfl
  have f7 := hf 7 _ rfl
  have f8 := hf 8 _ rfl
  have f9 := hf 9 _ rfl
  obtain ⟨c0, c1, c2, c3, c4, c5, c6, c7, c8, c9, rfl⟩ := ten_of hl
  obtain ⟨y0, y1, y2, y3, y4, y5, y6, y7, y8, y9, rfl⟩ := ten_of hxl
  have g0 : DataW.trod enc Tryz.prog w base spare held n' 5 (([c0, c1, c2, c3, c4, c5, c6, c7, c8, c9].drop 0).take (Tryz.prog.cellsOf 5)) = some y0 := f0
  rw [cellsOf5] at g0
  have g1 : DataW.trod enc Tryz.prog w base spare held n' 3 (([c0, c1, c2, c3, c4, c5, c6, c7, c8, c9].drop 1).take (Tryz.prog.cellsOf 3)) = some y1 := f1
  rw [cellsOf3] at g1
  have g2 : DataW.trod enc Tryz.prog w base spare held n' 3 (([c0, c1, c2, c3, c4, c5, c6, c7, c8, c9].drop 2).take (Tryz.prog.cellsOf 3)) = some y2 := f2
  rw [cellsOf3] at g2
  have g3 : DataW.trod enc Tryz.prog w base spare held n' 3 (([c0, c1, c2, c3, c4, c5, c6, c7, c8, c9].drop 3).take (Tryz.prog.cellsOf 3)) = some y3 := f3
  rw [cellsOf3] at g3
  have g4 : DataW.trod enc Tryz.prog w base spare held n' 2 (([c0, c1, c2, c3, c4, c5, c6, c7, c8, c9].drop 4).take (Tryz.prog.cellsOf 2)) = some y4 := f4
  rw [cellsOf2] at g4
  have g5 : DataW.trod enc Tryz.prog w base spare held n' 37 (([c0, c1, c2, c3, c4, c5, c6, c7, c8, c9].drop 5).take (Tryz.prog.cellsOf 37)) = some y5 := f5
  rw [cellsOf37] at g5
  have g6 : DataW.trod enc Tryz.prog w base spare held n' 22 (([c0, c1, c2, c3, c4, c5, c6, c7, c8, c9].drop 6).take (Tryz.prog.cellsOf 22)) = some y6 := f6
  rw [cellsOf22] at g6
  have g7 : DataW.trod enc Tryz.prog w base spare held n' 3 (([c0, c1, c2, c3, c4, c5, c6, c7, c8, c9].drop 7).take (Tryz.prog.cellsOf 3)) = some y7 := f7
  rw [cellsOf3] at g7
  have g8 : DataW.trod enc Tryz.prog w base spare held n' 3 (([c0, c1, c2, c3, c4, c5, c6, c7, c8, c9].drop 8).take (Tryz.prog.cellsOf 3)) = some y8 := f8
  rw [cellsOf3] at g8
  have g9 : DataW.trod enc Tryz.prog w base spare held n' 3 (([c0, c1, c2, c3, c4, c5, c6, c7, c8, c9].drop 9).take (Tryz.prog.cellsOf 3)) = some y9 := f9
  rw [cellsOf3] at g9
  obtain ⟨m0, e0, _, w0⟩ := DataW.trod_int Tryz.underlying5 g0
  obtain ⟨m1, e1, _, w1⟩ := DataW.trod_int Tryz.underlying3 g1
  obtain ⟨m2, e2, _, w2⟩ := DataW.trod_int Tryz.underlying3 g2
  obtain ⟨m3, e3, _, w3⟩ := DataW.trod_int Tryz.underlying3 g3
  obtain ⟨m4, e4, _, w4⟩ := DataW.trod_int Tryz.underlying2 g4
  obtain ⟨m5, e5, _, w5⟩ := DataW.trod_int Tryz.underlying37 g5
  obtain ⟨m7, e7, _, w7⟩ := DataW.trod_int Tryz.underlying3 g7
  obtain ⟨m8, e8, _, w8⟩ := DataW.trod_int Tryz.underlying3 g8
  obtain ⟨m9, e9, _, w9⟩ := DataW.trod_int Tryz.underlying3 g9
  have g6' : DataW.trod enc Tryz.prog w base spare held n' 22 [c6] = some y6 := g6
  obtain ⟨ks, hks, hki⟩ := open_numbers g6'
  simp at e0 e1 e2 e3 e4 e5 e7 e8 e9
  subst e0 e1 e2 e3 e4 e5 e7 e8 e9
  have hk0 := bounds_u8 w0
  have hk5 := bounds_u8 w5
  have h0 := hat 0 (by omega)
  have ea : a.add 0 = a := by simp [Addr.add]
  rw [ea] at h0
  have q0 : ((m0.toNat : Nat) : Int) = m0 := by omega
  have q5 : ((m5.toNat : Nat) : Int) = m5 := by omega
  refine ⟨(⟨m0.toNat, m1, m2, m3, m4, m5.toNat, ks, m7, m8, m9⟩, c6), ⟨_, h0⟩, ⟨by show m0.toNat < 256; omega, bounds_i64 w1, bounds_i64 w2, bounds_i64 w3, bounds_i64 w4, by show m5.toNat < 256; omega, hki, bounds_i64 w7, bounds_i64 w8, bounds_i64 w9⟩, fun b o hbo => ?_⟩
  subst hbo
  refine ⟨?_, cell_add (hat 1 (by omega)), cell_add (hat 2 (by omega)), cell_add (hat 3 (by omega)), cell_add (hat 4 (by omega)), ?_, cell_add (hat 6 (by omega)), cell_add (hat 7 (by omega)), cell_add (hat 8 (by omega)), cell_add (hat 9 (by omega)), hks⟩
  · show w.cell? _ = some (.int .u8 ((m0.toNat : Nat) : Int)); rw [q0]; exact h0
  · show w.cell? _ = some (.int .u8 ((m5.toNat : Nat) : Int)); rw [q5]; exact cell_add (hat 5 (by omega))
def FnGOk (g : FnG) : Prop := FnOk g.fn
theorem open_fn {a : Addr} {x : DataW H × List MemPlace} (h : ∃ cs, w.cells? base a 4 = some cs ∧ DataW.trod enc Tryz.prog w base spare held n 67 cs = some x) :
    ∃ y : FnG, (∃ u, w.cell? a = some u) ∧ FnGOk y ∧ ∀ b o, a = ⟨b, o, none⟩ → fnAt w b o y := by
  obtain ⟨cs, hc, ht⟩ := h
  obtain ⟨_, hl, hat⟩ := World.cells?_some hc
  obtain ⟨xs, n', _, _, _, hxl, hf⟩ := DataW.trod_struct Tryz.underlying67 ht
  have f0 := hf 0 _ rfl
  have f1 := hf 1 _ rfl
  have f2 := hf 2 _ rfl
  have f3 := hf 3 _ rfl
  obtain ⟨c0, c1, c2, c3, rfl⟩ := four_of hl
  obtain ⟨y0, y1, y2, y3, rfl⟩ := four_of hxl
  have g0 : DataW.trod enc Tryz.prog w base spare held n' 9 (([c0, c1, c2, c3].drop 0).take (Tryz.prog.cellsOf 9)) = some y0 := f0
  rw [cellsOf9] at g0
  have g1 : DataW.trod enc Tryz.prog w base spare held n' 3 (([c0, c1, c2, c3].drop 1).take (Tryz.prog.cellsOf 3)) = some y1 := f1
  rw [cellsOf3] at g1
  have g2 : DataW.trod enc Tryz.prog w base spare held n' 3 (([c0, c1, c2, c3].drop 2).take (Tryz.prog.cellsOf 3)) = some y2 := f2
  rw [cellsOf3] at g2
  have g3 : DataW.trod enc Tryz.prog w base spare held n' 65 (([c0, c1, c2, c3].drop 3).take (Tryz.prog.cellsOf 65)) = some y3 := f3
  rw [cellsOf65] at g3
  obtain ⟨s, e0, _, _⟩ := DataW.trod_string Tryz.underlying9 g0
  obtain ⟨m1, e1, _, w1⟩ := DataW.trod_int Tryz.underlying3 g1
  obtain ⟨m2, e2, _, w2⟩ := DataW.trod_int Tryz.underlying3 g2
  have g3' : DataW.trod enc Tryz.prog w base spare held n' 65 [c3] = some y3 := g3
  obtain ⟨l, hl3, hok⟩ := open_rows 10 insAt (fun y : InV => InOk y.1) Tryz.underlying65 cellsOf71 (fun _ _ _ h => open_instr h) g3'
  simp at e0 e1 e2
  subst e0 e1 e2
  have h0 := hat 0 (by omega)
  have ea : a.add 0 = a := by simp [Addr.add]
  rw [ea] at h0
  refine ⟨⟨⟨s.data.toList, m1, m2, l.map (·.1)⟩, c3, l⟩, ⟨_, h0⟩, ⟨bounds_i64 w1, bounds_i64 w2, fun y hy => ?_⟩, fun b o hbo => ?_⟩
  · obtain ⟨z, hz, rfl⟩ := List.mem_map.1 hy
    exact hok z hz
  · subst hbo
    exact ⟨h0, cell_add (hat 1 (by omega)), cell_add (hat 2 (by omega)), cell_add (hat 3 (by omega)), hl3, rfl⟩
set_option maxRecDepth 100000 in
/-- A program. -/
theorem open_prog {b0 : Nat} {r : Reach} {v : Value} {d : DataW H} {p : List MemPlace} (hv : Value.okWide Tryz.prog w r b0 25 v) (h : DataW.Trod enc Tryz.prog w base spare held 25 v d p) :
    ∃ g : PrG, v = prV g ∧ PrR w g ∧ PrOk g.p := by
  obtain ⟨cs0, rfl, hsz⟩ := okWide_struct Tryz.underlying25 hv
  obtain ⟨fuel, hf⟩ := h
  obtain ⟨xs, n', _, _, _, hxl, hf⟩ := DataW.trod_struct Tryz.underlying25 hf
  have f0 := hf 0 _ rfl
  have f1 := hf 1 _ rfl
  have f2 := hf 2 _ rfl
  obtain ⟨y0, y1, y2, rfl⟩ := three_of hxl
  obtain ⟨csl⟩ := cs0
  rw [cellsOf25] at hsz
  obtain ⟨c0, c1, c2, rfl⟩ := three_of (l := csl) (by simpa using hsz)
  have hcs : (Value.agg #[c0, c1, c2]).cells.toList = [c0, c1, c2] := rfl
  have g0 : DataW.trod enc Tryz.prog w base spare held n' 22 (((Value.agg #[c0, c1, c2]).cells.toList.drop 0).take (Tryz.prog.cellsOf 22)) = some y0 := f0
  rw [cellsOf22, hcs] at g0
  have g1 : DataW.trod enc Tryz.prog w base spare held n' 23 (((Value.agg #[c0, c1, c2]).cells.toList.drop 1).take (Tryz.prog.cellsOf 23)) = some y1 := f1
  rw [cellsOf23, hcs] at g1
  have g2 : DataW.trod enc Tryz.prog w base spare held n' 3 (((Value.agg #[c0, c1, c2]).cells.toList.drop 2).take (Tryz.prog.cellsOf 3)) = some y2 := f2
  rw [cellsOf3, hcs] at g2
  have g0' : DataW.trod enc Tryz.prog w base spare held n' 22 [c0] = some y0 := g0
  have g1' : DataW.trod enc Tryz.prog w base spare held n' 23 [c1] = some y1 := g1
  obtain ⟨ks, hks, hki⟩ := open_numbers g0'
  obtain ⟨l, hl, hok⟩ := open_rows 4 fnAt FnGOk Tryz.underlying23 cellsOf67 (fun _ _ _ h => open_fn h) g1'
  obtain ⟨m2, e2, _, w2⟩ := DataW.trod_int Tryz.underlying3 g2
  simp at e2
  subst e2
  refine ⟨⟨⟨ks, l.map (·.fn), m2⟩, c0, c1, l⟩, rfl, ⟨hks, hl, rfl⟩, ⟨hki, fun f hf => ?_, bounds_i64 w2⟩⟩
  obtain ⟨z, hz, rfl⟩ := List.mem_map.1 hf
  exact hok z hz
end
end Go.Proofs.YtgdibfnpkcdiiaaGreatDoor

/- A row of numbers of 64 bits, a byte: opened. By an AI agent. -/
namespace Go.Proofs.YtgdibfnpkcdiiaaGreatDoor
open Go.ChangeShapes Go.WideShapes Go.ChangeAt Go.RowKit Go.Deep

set_option maxRecDepth 100000 in
theorem open_i64s {H : Type} {enc : TypeId × Value → H} {w : World} {base b0 : Nat} {spare : Nat → Bool} {held : Bool} {r : Reach} {v : Value} {d : DataW H} {p : List MemPlace}
    (hv : Value.okWide Tryz.prog w r b0 40 v) (h : DataW.Trod enc Tryz.prog w base spare held 40 v d p) :
    ∃ (I : Option Addr) (ks : List Int) (c : Nat), v = .slice I ks.length c ∧ IntsV w (.slice I ks.length c) ks ∧ (∀ k ∈ ks, I64 k) ∧ (I = none → c = 0) := by
  obtain ⟨a0, len0, cap0, rfl⟩ := okWide_slice Tryz.underlying40 hv
  obtain ⟨fuel, hf⟩ := h
  have hcs : (Value.slice a0 len0 cap0).cells.toList = [.slice a0 len0 cap0] := rfl
  rw [hcs] at hf
  obtain ⟨ks, hk, h64⟩ := open_rows 1 intAt I64 Tryz.underlying40 cellsOf2 (fun n a x ⟨cs, hc, ht⟩ => by
    obtain ⟨_, hl, hat⟩ := World.cells?_some hc
    match cs, hl with
    | [c], _ =>
      obtain ⟨k, e0, _, w0⟩ := DataW.trod_int Tryz.underlying2 ht
      simp at e0
      subst e0
      have h0 := hat 0 (by omega)
      have e : a.add 0 = a := by simp [Addr.add]
      rw [e] at h0
      exact ⟨k, ⟨_, h0⟩, bounds_i64 w0, fun b o hbo => by rw [hbo] at h0; exact h0⟩) hf
  obtain ⟨A, c, e, hc, hr⟩ := hk
  injection e with e1 e2 e3
  subst e1; subst e2; subst e3
  refine ⟨_, ks, _, rfl, ⟨_, _, rfl, hc, hr⟩, h64, fun e => ?_⟩
  rcases open_slice Tryz.underlying40 hf with ⟨hcs, _⟩ | ⟨a, len, cap, m, n', D, Pl, hcs, _⟩
  · simp at hcs; exact hcs.2.2
  · simp at hcs; rw [e] at hcs; cases hcs.1
theorem open_u8 {n : Int} (h : (Lit.int .u8 n).wf = true) : ∃ c : Nat, n = (c : Int) ∧ c < 256 := by
  have := bounds_u8 h
  exact ⟨n.toNat, by omega, by omega⟩
end Go.Proofs.YtgdibfnpkcdiiaaGreatDoor
