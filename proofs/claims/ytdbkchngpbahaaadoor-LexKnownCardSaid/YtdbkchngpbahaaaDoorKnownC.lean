/- Two laws for LexKnown: a byte appended to a converted row of bytes; a string appended to a row of one byte, at an operation that is guarded. By an AI agent. -/
import Derived.Test.YtdbkchngpbahaaaDoorKnownA
import Derived.Lib.AppendStr
namespace Go.Proofs.YtdbkchngpbahaaaDoor
open Go.RowKit Go.Lib

theorem info5 : (Tryd.prog.info? 5).map (fun i => (i.zero, i.size, i.bytes)) = some (some (.int .u8 0), 1, 1) := by kernel_rfl

theorem byts_push {w : World} {B n : Nat} {l : List UInt8} {c : UInt8} (hl : l.length = n) (hc : ∀ i (h : i < l.length), w.cell? ⟨B, 0 + i, none⟩ = some (.int .u8 l[i].toNat)) (hs : (w.cell? ⟨B, n, none⟩).isSome = true) :
    BytS (w.setCells B n [.int .u8 c.toNat]) (some ⟨B, 0, none⟩) (l ++ [c]) := by
  refine Or.inr ⟨B, 0, rfl, fun i hi => ?_⟩
  rw [List.length_append, List.length_singleton] at hi
  rw [Nat.zero_add]
  by_cases h : i < l.length
  · have h1 := hc i h
    rw [Nat.zero_add] at h1
    rw [World.cell?_setCells_out B _ n w ⟨B, i, none⟩ (fun _ _ => Or.inl (by simp only; omega)), h1, List.getElem_append_left h]
  · obtain rfl : i = n := by omega
    have := World.cell?_setCells_in B [Value.int .u8 c.toNat] i w (fun j hj => by
      have : j = 0 := by simp at hj; omega
      subst this; exact hs) 0 (by simp)
    rw [Nat.add_zero] at this
    rw [this, List.getElem_append_right (by omega)]
    simp
theorem byts_own {w : World} {base e g n cap : Nat} {l : List UInt8} (h : w.ownsRow base e 1 (.slice (some ⟨g, 0, none⟩) n cap) n (l.map (fun c => Value.int .u8 c.toNat))) (hpos : 0 < n) : BytS w (some ⟨g, 0, none⟩) l := by
  have hl : l.length = n := by have := h.1; simpa using this
  obtain ⟨g', cap', hv, _, _⟩ := h.form hpos
  injection hv with hv _ _
  injection hv with hv
  injection hv with hg _ _
  subst hg
  refine Or.inr ⟨g, 0, rfl, fun i hi => ?_⟩
  rw [Nat.zero_add]
  have := h.cellAt i (by omega)
  rw [this, List.getElem?_map, List.getElem?_eq_getElem hi]
  rfl

theorem push_law {ops : Array Oper} {rest : List Oper} {o : Oper} {a : Act} {Q : Exit → Act → World → Prop} (w : World) (hg : o.guard = none) (s x : Operand)
    (hop : o.op = Op.call { callee := Callee.builtin Builtin.append, args := #[s, x], argTypes := #[22, 22] }) (B n cap : Nat) (l : List UInt8) (cc : UInt8) (hs : a.eval s = .slice (some ⟨B, 0, none⟩) n cap) (hl : l.length = n) (hn : n ≤ 1000) (hcap : cap ≤ 9223372036854775807)
    (hcells : ∀ i (h : i < l.length), w.cell? ⟨B, 0 + i, none⟩ = some (.int .u8 l[i].toNat)) (ad : Nat) (c : Nat) (hx : a.eval x = .slice (some ⟨ad, 0, none⟩) 1 c) (hnew : w.cell? ⟨ad, 0, none⟩ = some (.int .u8 cc.toNat))
    (hspare : n + 1 ≤ cap → (w.cell? ⟨B, n, none⟩).isSome = true ∧ w.frozen? ⟨B, n, none⟩ = false) (base : Nat) (hB : base ≤ B) (hbase : base ≤ w.heap.size)
    (hK : ∀ g cap' w', BytS w' (some ⟨g, 0, none⟩) (l ++ [cc]) → Below base w w' → n + 1 ≤ cap' → cap' ≤ 9223372036854775807 → wpList Tryd.prog ops Q rest (a.put o.dst (.slice (some ⟨g, 0, none⟩) (n + 1) cap')) w') :
    wpList Tryd.prog ops Q (o :: rest) a w := by
  obtain ⟨i0, hi0, hz0, hz1, hz2⟩ := info_parts info5
  refine wpList_append_arg w hg s x 22 hop 5 i0 (.int .u8 0) 1 1 Tryd.underlying22 hi0 hz0 hz1 hz2 rfl (by decide) B 0 n cap (l.map (fun c => Value.int .u8 c.toNat)) hs (by simp [hl]) (fun j u hj => ?_) ⟨ad, 0, none⟩ 1 c [.int .u8 cc.toNat] hx rfl (fun j u hj => ?_) (by simp [Value.oneCell']) (fun hr j hj => ?_) (by unfold maxLen; omega) (by omega) (fun hr => ?_) (fun hr v' w' hown hgrow => ?_)
  · rw [List.getElem?_map] at hj
    obtain ⟨b, hb, rfl⟩ := Option.map_eq_some_iff.1 hj
    obtain ⟨hj', rfl⟩ := List.getElem?_eq_some_iff.1 hb
    exact hcells j hj'
  · have : j = 0 := by
      have := (List.getElem?_eq_some_iff.1 hj).1; simp at this; omega
    subst this
    simp at hj
    subst hj
    exact hnew
  · have : j = 0 := by simp at hj; omega
    subst this
    have := hspare hr
    simpa using this
  · refine hK B cap _ ?_ ?_ hr hcap
    · have := byts_push (c := cc) hl hcells (hspare hr).1
      simpa using this
    · have := (Below.refl base w).setCell (p := ⟨B, n, none⟩) hB (.int .u8 cc.toNat)
      simpa [World.setCells] using this
  · obtain ⟨g, cap', rfl, hgb, hlt⟩ := hown.form (by omega)
    have hcm : n + 1 ≤ cap' ∧ cap' ≤ 9223372036854775807 := by
      rcases hown.2 with ⟨h, _⟩ | ⟨g2, cap2, cur, h, _, _, h1, h2, _⟩
      · cases h
      · injection h with _ _ h; subst h; unfold maxLen at h2; exact ⟨h1, by omega⟩
    refine hK g cap' w' ?_ ((Below.refl base w).grown hgrow hbase (fun q e => by cases e)) hcm.1 hcm.2
    have h2 : (l.map (fun c => Value.int .u8 c.toNat)) ++ [Value.int .u8 cc.toNat] = (l ++ [cc]).map (fun c => Value.int .u8 c.toNat) := by simp
    rw [h2] at hown
    exact byts_own hown (by omega)

theorem str_law {ops : Array Oper} {rest : List Oper} {o : Oper} {a : Act} {Q : Exit → Act → World → Prop} (w : World) (hw : Region.wanted o (yielded ops a.tmps) = true) (sl x : Operand)
    (hop : o.op = Op.call { callee := Callee.builtin Builtin.append, args := #[sl, x], argTypes := #[22, 9] }) (B : Nat) (cc : UInt8) (s : ByteArray) (hs : a.eval sl = .slice (some ⟨B, 0, none⟩) 1 1) (hx : a.eval x = .string s) (hn : s.size ≤ 1000)
    (hnew : w.heap[B]? = some (.cells #[.int .u8 cc.toNat] 5 (0, 0))) (base : Nat) (hB : base ≤ B) (hbase : base ≤ w.heap.size)
    (hK : ∀ g cap' w', BytS w' (some ⟨g, 0, none⟩) (cc :: s.data.toList) → Below base w w' → wpList Tryd.prog ops Q rest (a.put o.dst (.slice (some ⟨g, 0, none⟩) (1 + s.size) cap')) w') :
    wpList Tryd.prog ops Q (o :: rest) a w := by
  obtain ⟨i0, hi0, hz0, hz1, hz2⟩ := info_parts info5
  have hown : w.ownsRow base 5 1 (.slice (some ⟨B, 0, none⟩) 1 1) 1 [.int .u8 cc.toNat] := ⟨rfl, Or.inr ⟨B, 1, _, rfl, hB, hnew, Nat.le_refl _, by unfold maxLen; omega, rfl, rfl⟩⟩
  obtain ⟨v', w', hrun, hown', hgrow, _⟩ := run_append_own_string (P := Tryd.prog) w base 22 9 o.type 5 i0 Tryd.underlying22 Tryd.underlying9 hi0 hz0 hz1 hz2 _ 1 _ hown s (by unfold maxLen; omega) (by omega) hbase
  obtain ⟨g, cap', rfl, hgb, hlt⟩ := hown'.form (by omega)
  have h2 : [Value.int .u8 cc.toNat] ++ strCells s = (cc :: s.data.toList).map (fun c => Value.int .u8 c.toNat) := by simp [strCells]
  rw [h2] at hown'
  have hK1 := hK g cap' w' (byts_own hown' (by omega)) ((Below.refl base w).grown hgrow hbase (fun q e => by cases e; exact hB))
  refine wpList_step fun K hK' => ?_
  rw [if_pos hw]
  unfold Oper.wp
  simp [execOp, hop, resolve, invoke, builtin, hs, hx, hrun, Result.andThen]
  exact hK' _ _ hK1
end Go.Proofs.YtdbkchngpbahaaaDoor
