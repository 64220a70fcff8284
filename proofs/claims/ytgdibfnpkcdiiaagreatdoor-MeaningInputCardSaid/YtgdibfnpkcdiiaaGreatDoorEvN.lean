/- Appending and copying, reckoned on words. No condition. -/
import Derived.Test.YtgdibfnpkcdiiaaGreatDoorEvM
namespace Go.Proofs.YtgdibfnpkcdiiaaGreatDoor
namespace Ev

section
variable {P : Program} {K : Kon} {o : Oper}

theorem cell_heap {w w' : World} (h : w'.heap = w.heap) (a : Addr) : w'.cell? a = w.cell? a := by unfold World.cell?; rw [h]

/-- What a slice's first cells are. -/
theorem sli_cells {g : Gh} {st : St} {w : World} (hh : HR g st w) {blk base room cap z s q e n l : Nat} {a : Addr} (hr : g.rho s = .cells blk base z room) (h1 : q + l * e ≤ z) (h2 : l ≤ cap) (ha : cap = 0 ∨ (a = ⟨blk, base + q, none⟩ ∧ q + cap * e ≤ room)) (hn : n ≤ l) :
    ∃ cs : Array Value, cs.size = n * e ∧ (∀ w' : World, w'.heap = w.heap → (loadCells a (n * e)).run P w' = .ok cs w') ∧ ∀ j, j < n * e → VR g (gt (ch st.M (s + q) (n * e)) j) (cs.getD j undef) := by
  by_cases h0 : n * e = 0
  · refine ⟨#[], by rw [h0]; rfl, fun w' _ => by rw [h0]; rfl, fun j hj => by omega⟩
  · have hne : n ≠ 0 := fun h => h0 (by rw [h, Nat.zero_mul])
    obtain ⟨rfl, _⟩ := ha.resolve_left (by omega)
    have hm : n * e ≤ l * e := Nat.mul_le_mul_right _ hn
    have hall : ∀ j, j < n * e → ∃ v, w.cell? ⟨blk, base + q + j, none⟩ = some v ∧ VR g (gt st.M (s + q + j)) v := fun j hj => by
      have := hh.load (o := q + j) hr (by omega)
      rwa [← Nat.add_assoc, ← Nat.add_assoc] at this
    let f : Nat → Value := fun j => (w.cell? ⟨blk, base + q + j, none⟩).getD undef
    refine ⟨((List.range (n * e)).map f).toArray, by simp, fun w' hw => ?_, fun j hj => ?_⟩
    · refine run_loadCells w' _ _ f fun j hj => ?_
      obtain ⟨v, hv, _⟩ := hall j hj
      rw [add_none, cell_heap hw, hv]; simp [f, hv]
    · rw [gt_ch, if_pos hj]
      obtain ⟨v, hv, hr⟩ := hall j hj
      have : (((List.range (n * e)).map f).toArray).getD j undef = v := by simp [hj, f, hv]
      rw [this]; exact hr

noncomputable def strRow (S q n : Nat) : Nat := rowN ((List.range n).map fun i => Nat.add 2361183241434822606914 (Nat.mul 256 (byteAt S (Nat.add q i))))

theorem strRow_ok (g : Gh) (S q n : Nat) : strRow S q n < 2 ^ (128 * n) ∧ ∀ j, j < n → VR g (gt (strRow S q n) j) (.int .u8 (byteAt S (q + j) : Nat)) := by
  have hw : ∀ w ∈ (List.range n).map (fun i => Nat.add 2361183241434822606914 (Nat.mul 256 (byteAt S (Nat.add q i)))), w < 2 ^ 128 := fun w hm => by
    obtain ⟨i, _, rfl⟩ := List.mem_map.1 hm
    have := byteAt_lt S (q + i)
    show 2361183241434822606914 + 256 * byteAt S (q + i) < _
    omega
  refine ⟨by have := rowN_lt _ hw; rwa [List.length_map, List.length_range] at this, fun j hj => ?_⟩
  rw [strRow, gt_rowN _ _ hw, List.getD_eq_getElem?_getD, List.getElem?_map, List.getElem?_range hj, Option.map_some, Option.getD_some]
  show VR g (2361183241434822606914 + 256 * byteAt S (q + j)) _
  rw [← eInt_u8]
  have := byteAt_lt S (q + j)
  exact .int _ _ (by omega) (by omega)

noncomputable def appSrc (size wx : Nat) (st : St) : Option Src :=
  sel (Nat.beq (Nat.mod wx 16) 7) (sel (Nat.beq (se wx) size) (some ⟨sl wx, ch st.M (Nat.add (ps wx) (so wx)) (Nat.mul (sl wx) size)⟩) none)
    (sel (Nat.beq (Nat.mod wx 16) 3) (sel (Nat.beq size 1) (some ⟨ln wx, strRow st.S (sa wx) (ln wx)⟩) none) (sel (Nat.beq wx 6) (some ⟨0, 0⟩) (sel (Nat.beq wx 57) (some ⟨0, 0⟩) none)))

theorem appSrc_ok {g : Gh} {st : St} {w : World} (hh : HR g st w) {R nR wx size : Nat} {xv : Value} (hx : TR g R nR wx xv) {n c : Nat} (e : appSrc size wx st = some ⟨n, c⟩) :
    Builtin.lenOf xv = pure n ∧ n < 16777216 ∧ c < 2 ^ (128 * (n * size)) ∧ ∃ news : Array Value, news.size = n * size ∧ (∀ w' : World, w'.heap = w.heap → (Builtin.firstCells size n xv).run P w' = .ok news w') ∧ ∀ j, j < n * size → VR g (gt c j) (news.getD j undef) := by
  unfold appSrc at e
  have zero : ∀ b : Option Addr, xv = .slice b 0 0 → n = 0 → c = 0 → Builtin.lenOf xv = pure n ∧ n < 16777216 ∧ c < 2 ^ (128 * (n * size)) ∧ ∃ news : Array Value, news.size = n * size ∧ (∀ w' : World, w'.heap = w.heap → (Builtin.firstCells size n xv).run P w' = .ok news w') ∧ ∀ j, j < n * size → VR g (gt c j) (news.getD j undef) := by
    rintro b rfl rfl rfl
    refine ⟨rfl, by decide, Nat.two_pow_pos _, #[], by rw [Nat.zero_mul]; rfl, fun w' _ => ?_, fun j hj => by rw [Nat.zero_mul] at hj; omega⟩
    cases b with
    | none => rfl
    | some a => rw [Builtin.firstCells, Nat.zero_mul]; rfl
  cases h1 : Nat.beq (Nat.mod wx 16) 7 with
  | true =>
    rw [h1, sel_true] at e
    cases h2 : Nat.beq (se wx) size with
    | false => rw [h2] at e; cases e
    | true =>
      rw [h2, sel_true] at e
      injection e with e
      injection e with e1 e2
      have h2 := beq_t h2
      simp only [nA, nM] at e2
      obtain ⟨blk, base, room, cap, ad, a1, a2, a3, a4, a5, a6, a7, a8, a9, a10⟩ := hx.sli (beq_t h1)
      subst e1
      rw [h2] at a8 a10
      obtain ⟨cs, c1, c2, c3⟩ := sli_cells (P := P) hh a7 a8 a9 a10 (Nat.le_refl _)
      refine ⟨by rw [a2]; rfl, a5, by rw [← e2]; exact ch_lt _ _ _, cs, c1, fun w' hw => by rw [a2]; exact c2 w' hw, by rw [← e2]; exact c3⟩
  | false =>
    rw [h1, sel_false] at e
    cases h2 : Nat.beq (Nat.mod wx 16) 3 with
    | true =>
      rw [h2, sel_true] at e
      cases h3 : Nat.beq size 1 with
      | false => rw [h3] at e; cases e
      | true =>
        rw [h3, sel_true] at e
        injection e with e
        injection e with e1 e2
        have h3 := beq_t h3
        subst h3
        obtain ⟨a1, a2, a3, a4, a5⟩ := hx.str (beq_t h2)
        subst e1
        obtain ⟨r1, r2⟩ := strRow_ok g st.S (sa wx) (ln wx)
        rw [Nat.mul_one]
        refine ⟨by rw [a2, Builtin.lenOf, strOf_size], a3, by rw [← e2]; exact r1, ((List.range (ln wx)).map fun j => Value.int .u8 (byteAt st.S (sa wx + j) : Nat)).toArray, by simp, fun w' _ => ?_, fun j hj => ?_⟩
        · rw [a2, Builtin.firstCells, strOf_extract _ _ _ _ _ (Nat.le_refl _), hh.S]
          simp only [Sem.run_pure, Nat.add_zero, Nat.sub_zero]
          congr 1
          apply Array.ext'
          rw [Array.toList_map, strOf_data, List.map_map]
          refine List.map_congr_left fun i _ => ?_
          simp only [Function.comp]
          rw [byte_toNat]
        · rw [← e2]
          have := r2 j hj
          simpa [hj] using this
    | false =>
      rw [h2, sel_false] at e
      cases h3 : Nat.beq wx 6 with
      | true =>
        rw [h3, sel_true] at e
        injection e with e
        injection e with e1 e2
        exact zero _ (hx.nil (beq_t h3)) e1.symm e2.symm
      | false =>
        rw [h3, sel_false] at e
        cases h4 : Nat.beq wx 57 with
        | false => rw [h4] at e; cases e
        | true =>
          rw [h4, sel_true] at e
          injection e with e
          injection e with e1 e2
          obtain ⟨ad, a2⟩ := hx.emp (beq_t h4)
          exact zero _ a2 e1.symm e2.symm

noncomputable def slB (w : Nat) : Bool := sel (Nat.beq (Nat.mod w 16) 7) true (sel (Nat.beq w 6) true (Nat.beq w 57))
/-- A new row of cells, a slice of all of it. -/
noncomputable def newSl (n size M c : Nat) (st : St) : RS :=
  sel (Nat.blt st.nM 16777216) (sel (Nat.blt n 16777216) (sel (Nat.blt (Nat.mul n size) 16777216) (fc (ad M st.nM c) fun M =>
    .ok (Nat.add (Nat.add (Nat.add (Nat.add 7 (Nat.mul 16 st.nM)) (Nat.mul 268435456 (Nat.mul n size))) (Nat.mul 4503599627370496 n)) (Nat.mul 75557863725914323419136 size))
      (setM M (Nat.add (Nat.add st.nM (Nat.mul n size)) 1) st)) .no) .no) .no
noncomputable def opApp (size : Nat) (s x : Opd) (st : St) : RS :=
  Option.rec .no (fun q => Src.rec (fun n c =>
    sel (Nat.beq n 0) (sel (slB (rd st.T s)) (.ok (rd st.T s) st) .no)
      (sel (Nat.beq (Nat.mod (rd st.T s) 16) 7)
        (sel (Nat.beq (se (rd st.T s)) size) (sel (Nat.beq (gt st.M (ps (rd st.T s))) 0) .no (sel (Nat.beq (pz (rd st.T s)) 0) .no
          (newSl (Nat.add (sl (rd st.T s)) n) size (up st.M (ps (rd st.T s)) (pz (rd st.T s)) 0)
            (ad (ch st.M (Nat.add (ps (rd st.T s)) (so (rd st.T s))) (Nat.mul (sl (rd st.T s)) size)) (Nat.mul (sl (rd st.T s)) size) c) st))) .no)
        (sel (Nat.beq (rd st.T s) 6) (newSl n size st.M c st) (sel (Nat.beq (rd st.T s) 57) (newSl n size st.M c st) .no)))) q) (appSrc size (rd st.T x) st)

theorem newSl_ok {n size M c z : Nat} {st st' : St} (e : newSl n size M c st = .ok z st') : st.nM < 16777216 ∧ n < 16777216 ∧ n * size < 16777216 ∧
    z = eSli st.nM (n * size) n size 0 ∧ st' = { st with M := ad M st.nM c, nM := st.nM + n * size + 1 } := by
  unfold newSl at e
  obtain ⟨h1, e⟩ := sel_ok e
  obtain ⟨h2, e⟩ := sel_ok e
  obtain ⟨h3, e⟩ := sel_ok e
  rw [fc_eq] at e
  injection e with e1 e2
  have h1 := blt_t h1
  have h2 := blt_t h2
  have h3 := blt_t h3
  simp only [nA, nM] at e1 e2 h3
  exact ⟨h1, h2, h3, e1.symm, e2.symm⟩

/-- A row's cells, two rows' and zeros' behind. -/
theorem getD_app (a b c : Array Value) (j : Nat) : (a ++ b ++ c).getD j undef = if j < a.size then a.getD j undef else if j < a.size + b.size then b.getD (j - a.size) undef else c.getD (j - (a.size + b.size)) undef := by
  rw [Array.getD_eq_getD_getElem?, Array.getElem?_append, Array.size_append]
  by_cases h1 : j < a.size
  · rw [if_pos (by omega), Array.getElem?_append, if_pos h1, if_pos h1, ← Array.getD_eq_getD_getElem?]
  · by_cases h2 : j < a.size + b.size
    · rw [if_pos h2, Array.getElem?_append, if_neg h1, if_neg h1, if_pos h2, ← Array.getD_eq_getD_getElem?]
    · rw [if_neg h2, if_neg h1, if_neg h2, ← Array.getD_eq_getD_getElem?]

theorem zero_one {z : Value} (h : ∀ v ∈ z.cells.toList, v.oneCell' = true) (n i : Nat) (hi : i < (Builtin.zeroCells z.cells n).size) : ((Builtin.zeroCells z.cells n).getD i undef).oneCell' = true := by
  unfold Builtin.zeroCells at *
  have hi' : i < n * z.cells.size := by simpa using hi
  have hpos : 0 < z.cells.size := by
    rcases Nat.eq_zero_or_pos z.cells.size with h | h
    · rw [h, Nat.mul_zero] at hi'; omega
    · exact h
  have hlt : i % z.cells.size < z.cells.size := Nat.mod_lt _ hpos
  rw [Array.getD_eq_getD_getElem?, Array.getElem?_map, Array.getElem?_range, if_pos hi']
  simp only [Option.map_some, Option.getD_some]
  rw [getElem!_pos z.cells _ hlt]
  exact h _ (by simp)

end
end Ev
end Go.Proofs.YtgdibfnpkcdiiaaGreatDoor
