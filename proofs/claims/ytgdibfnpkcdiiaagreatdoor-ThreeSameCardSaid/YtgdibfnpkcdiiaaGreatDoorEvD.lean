/- The memory's moves: an allocation, a row that stays, a store, cells forgotten, an append in place, bytes put into the pool. No condition. -/
import Derived.Test.YtgdibfnpkcdiiaaGreatDoorEvC
namespace Go.Proofs.YtgdibfnpkcdiiaaGreatDoor
namespace Ev

theorem push_old {w : World} {o x : Obj} {b : Nat} (h : w.heap[b]? = some x) : (w.alloc o).heap[b]? = some x := by
  have hb := (Array.getElem?_eq_some_iff.1 h).1
  show (w.heap.push o)[b]? = some x
  rw [Array.getElem?_push, if_neg (by omega)]; exact h
theorem push_new (w : World) (o : Obj) : (w.alloc o).heap[w.heap.size]? = some o := by
  show (w.heap.push o)[w.heap.size]? = some o
  simp

theorem cw_more {cw n : Nat} (h : cw < 2 ^ (128 * n)) : cw < 2 ^ (128 * (n + 1)) := Nat.lt_of_lt_of_le h (Nat.pow_le_pow_right (by omega) (by omega))

section
variable {g : Gh} {st : St} {w : World}

theorem Fr.alloc (h : HR g st w) (o : Obj) {i : Info} (hi : ∀ b base z room, i = .cells b base z room → b = w.heap.size) (hm : ∀ b, i = .map b → b = w.heap.size) : Fr g w (g.put st.nM i) (w.alloc o) := by
  refine ⟨rfl, rfl, rfl, by show _ ≤ (w.heap.push o).size; simp, Gh.put_le i (rho_top h (Nat.le_refl _)), fun b hb _ => ?_, fun b hb ho => ?_⟩
  · rw [Array.getElem?_eq_getElem hb]; exact push_old (Array.getElem?_eq_getElem hb)
  · rcases ho with ⟨s, base, z, room, hs⟩ | ⟨s, hs⟩
    · rw [Gh.put_rho] at hs; split at hs
      · have := hi _ _ _ _ hs; omega
      · exact .inl ⟨s, base, z, room, hs⟩
    · rw [Gh.put_rho] at hs; split at hs
      · have := hm _ hs; omega
      · exact .inr ⟨s, hs⟩

theorem HR.alloc (h : HR g st w) (c : Array Value) (e : TypeId) (fr : Nat × Nat) {n cw : Nat} (hn : n ≤ c.size) (hcw : cw < 2 ^ (128 * n)) (hv : ∀ i, i < n → VR g (gt cw i) (c.getD i undef))
    (one : ∀ i, i < c.size → (c.getD i undef).oneCell' = true) (thaw : Thaw fr c.size) :
    HR (g.put st.nM (.cells w.heap.size 0 n c.size)) { st with M := ad st.M st.nM cw, nM := st.nM + n + 1 } (w.alloc (.cells c e fr)) ∧
      Fr g w (g.put st.nM (.cells w.heap.size 0 n c.size)) (w.alloc (.cells c e fr)) := by
  refine ⟨?_, Fr.alloc h _ (fun b base z room hb => by injection hb with h1; exact h1.symm) (fun b hb => by cases hb)⟩
  refine HR.grown h (i := .cells w.heap.size 0 n c.size) (cw_more hcw) (by simp) ?_ ?_ ?_ (fun ws hw => by cases hw) (fun b hb => by cases hb)
  · intro s blk base z room c' e' fr' _ hc
    exact ⟨c', e', fr', push_old hc.heap, rfl, hc.one, fun _ => ⟨rfl, rfl⟩⟩
  · intro s blk hs
    obtain ⟨o, ho, _⟩ := h.maps s blk hs
    rw [push_old ho, ho]
  · intro blk base z room hi
    injection hi with h1 h2 h3 h4
    subst h1; subst h2; subst h3; subst h4
    refine ⟨⟨c, e, fr, push_new _ _, by omega, hn, one, fun o ho => ?_, fun _ => thaw⟩, fun s base' z' room' hs => ?_⟩
    · rw [gt_ad _ _ h.Mlt, if_neg (by omega), show st.nM + o - st.nM = o by omega, Nat.zero_add]
      exact (hv o ho).mono (Gh.put_le _ (rho_top h (Nat.le_refl _)))
    · exact absurd (own_lt h (.inl ⟨s, base', z', room', hs⟩)) (by omega)

/-- A block that no allocation stands for. -/
theorem HR.push (h : HR g st w) (o : Obj) : HR g st (w.alloc o) ∧ Fr g w g (w.alloc o) := by
  refine ⟨⟨h.S, h.nS, h.Slt, h.Mlt, h.Rlt, h.top, h.disj, fun s blk base z room hs => ?_, h.rows, fun s blk hs => ?_, h.inj, h.minj⟩, ⟨rfl, rfl, rfl, by show _ ≤ (w.heap.push o).size; simp, Gh.le.refl _, fun b hb _ => ?_, fun _ _ h => h⟩⟩
  · obtain ⟨c, e, fr, hc⟩ := h.cells s blk base z room hs
    exact ⟨c, e, fr, push_old hc.heap, hc.size, hc.room, hc.one, hc.vr, hc.thaw⟩
  · obtain ⟨x, hx, hm⟩ := h.maps s blk hs
    exact ⟨x, push_old hx, hm⟩
  · rw [Array.getElem?_eq_getElem hb]; exact push_old (Array.getElem?_eq_getElem hb)

theorem HR.row (h : HR g st w) (ws : List Nat) {cw : Nat} (hcw : cw < 2 ^ (128 * ws.length)) (hv : ∀ i, i < ws.length → gt cw i = ws.getD i 0) :
    HR (g.put st.nM (.row ws)) { st with M := ad st.M st.nM cw, nM := st.nM + ws.length + 1 } w ∧ Fr g w (g.put st.nM (.row ws)) w := by
  refine ⟨HR.grown h (i := .row ws) (cw_more hcw) (by simp) ?_ (fun _ _ _ => rfl) (fun _ _ _ _ hi => by cases hi) ?_ (fun b hb => by cases hb), ?_⟩
  · intro s blk base z room c' e' fr' _ hc
    exact ⟨c', e', fr', hc.heap, rfl, hc.one, fun _ => ⟨rfl, rfl⟩⟩
  · intro ws' hw; injection hw with hw; subst hw; exact hv
  · refine ⟨rfl, rfl, rfl, Nat.le_refl _, Gh.put_le _ (rho_top h (Nat.le_refl _)), fun _ _ _ => rfl, fun b _ ho => ?_⟩
    rcases ho with ⟨s, base, z, room, hs⟩ | ⟨s, hs⟩
    · rw [Gh.put_rho] at hs; split at hs
      · cases hs
      · exact .inl ⟨s, base, z, room, hs⟩
    · rw [Gh.put_rho] at hs; split at hs
      · cases hs
      · exact .inr ⟨s, hs⟩

/-- A place's cells are forgotten. -/
theorem HR.kill (h : HR g st w) {s blk base z room : Nat} (hr : g.rho s = .cells blk base z room) : HR g { st with M := up st.M s z 0 } w := by
  have hz : (0 : Nat) < 2 ^ (128 * z) := Nat.pow_pos (by omega)
  have ht := h.top s (by rw [hr]; simp)
  rw [hr] at ht
  have far : ∀ s', s' ≠ s → g.rho s' ≠ .free → ∀ o, o ≤ (g.rho s').size → gt (up st.M s z 0) (s' + o) = gt st.M (s' + o) := fun s' hs' hf o ho => by
    rw [gt_up _ _ _ hz, if_neg]
    rcases Nat.lt_or_gt_of_ne hs' with hlt | hgt
    · have := h.disj s' s hlt hf (by rw [hr]; simp); omega
    · have := h.disj s s' hgt (by rw [hr]; simp) hf
      rw [hr] at this
      have e : (Info.cells blk base z room).size = z := rfl
      omega
  have dead : ∀ o, o < z → gt (up st.M s z 0) (s + o) = 0 := fun o ho => by rw [gt_up _ _ _ hz, if_pos (by omega), gt_zero]
  have live : ∀ s' z', s' ≠ s → (∃ b base r, g.rho s' = .cells b base z' r) → Live (up st.M s z 0) s' z' → Live st.M s' z' := by
    rintro s' z' hne ⟨b, ba, r, e⟩ ⟨o, ho, hg⟩
    refine ⟨o, ho, ?_⟩
    rwa [far s' hne (by rw [e]; simp) o (by rw [e]; exact Nat.le_of_lt ho)] at hg
  have nolive : ¬ Live (up st.M s z 0) s z := by rintro ⟨o, ho, hg⟩; exact hg (dead o ho)
  refine ⟨h.S, h.nS, h.Slt, up_lt h.Mlt (Nat.le_of_lt ht) hz, h.Rlt, h.top, h.disj, ?_, ?_, ?_, ?_, h.minj⟩
  · intro s' blk' base' z' room' hs'
    obtain ⟨c, e, fr, hc⟩ := h.cells s' blk' base' z' room' hs'
    refine ⟨c, e, fr, hc.heap, hc.size, hc.room, hc.one, fun o ho => ?_, fun hl => ?_⟩
    · by_cases es : s' = s
      · subst es
        rw [hr] at hs'; injection hs' with _ _ ez _
        rw [dead o (by omega)]
        exact .unk _ (hc.one _ (by have := hc.size; have := hc.room; omega))
      · rw [far s' es (by rw [hs']; simp) o (by rw [hs']; exact Nat.le_of_lt ho)]; exact hc.vr o ho
    · by_cases es : s' = s
      · subst es
        rw [hr] at hs'; injection hs' with _ _ ez _
        subst ez; exact absurd hl nolive
      · exact hc.thaw (live s' z' es ⟨_, _, _, hs'⟩ hl)
  · intro s' ws hs' i hi
    have es : s' ≠ s := by rintro rfl; rw [hr] at hs'; cases hs'
    show gt (up st.M s z 0) (s' + i) = _
    rw [far s' es (by rw [hs']; simp) i (by rw [hs']; exact Nat.le_of_lt hi)]
    exact h.rows s' ws hs' i hi
  · intro s' b hs'
    have es : s' ≠ s := by rintro rfl; rw [hr] at hs'; cases hs'
    have := far s' es (by rw [hs']; simp) 0 (Nat.zero_le _)
    rw [Nat.add_zero] at this
    show ∃ o, _ ∧ MapR g (gt (up st.M s z 0) s') o
    rw [this]; exact h.maps s' b hs'
  · intro s1 s2 b base1 z1 room1 base2 z2 room2 hne h1 h2 l1 l2
    have n1 : s1 ≠ s := by rintro rfl; rw [hr] at h1; injection h1 with _ _ e _; subst e; exact nolive l1
    have n2 : s2 ≠ s := by rintro rfl; rw [hr] at h2; injection h2 with _ _ e _; subst e; exact nolive l2
    exact h.inj s1 s2 b base1 z1 room1 base2 z2 room2 hne h1 h2 (live s1 z1 n1 ⟨_, _, _, h1⟩ l1) (live s2 z2 n2 ⟨_, _, _, h2⟩ l2)

/-- Cells with others from a place on. -/
def spl (c : Array Value) (o : Nat) (vs : List Value) : Array Value := (c.toList.take o ++ vs ++ c.toList.drop (o + vs.length)).toArray
theorem spl_size (c : Array Value) {o : Nat} {vs : List Value} (h : o + vs.length ≤ c.size) : (spl c o vs).size = c.size := by
  simp [spl]; omega
theorem spl_getD (c : Array Value) {o : Nat} {vs : List Value} (h : o + vs.length ≤ c.size) (i : Nat) : (spl c o vs).getD i undef = if o ≤ i ∧ i < o + vs.length then vs.getD (i - o) undef else c.getD i undef := by
  have hl : (c.toList.take o).length = o := by simp; omega
  rw [Array.getD_eq_getD_getElem?, spl, List.getElem?_toArray, List.append_assoc]
  by_cases h1 : i < o
  · rw [List.getElem?_append_left (by omega), if_neg (by omega), List.getElem?_take, if_pos h1, Array.getElem?_toList, ← Array.getD_eq_getD_getElem?]
  · rw [List.getElem?_append_right (by omega), hl]
    by_cases h2 : i < o + vs.length
    · rw [List.getElem?_append_left (by omega), if_pos (by omega), List.getD_eq_getElem?_getD]
    · rw [List.getElem?_append_right (by omega), if_neg (by omega), List.getElem?_drop, show o + vs.length + (i - o - vs.length) = i by omega, Array.getElem?_toList, ← Array.getD_eq_getD_getElem?]

theorem run_cells (P : Program) (b o : Nat) (t : TypeId) (fz : Nat × Nat) : ∀ (vs : List Value) (i : Nat) (cur : Array Value) (w : World), w.heap[b]? = some (.cells cur t fz) → Thaw fz cur.size →
    o + i + vs.length ≤ cur.size → (∀ v ∈ vs, v.oneCell' = true) → (storeCells ⟨b, o, none⟩ vs i).run P w = .ok () (w.setRow b (spl cur (o + i) vs))
  | [], i, cur, w, hg, _, _, _ => by
    simp only [spl, storeCells, List.append_nil, List.length_nil, Nat.add_zero, List.take_append_drop, Array.toArray_toList]
    rw [setRow_self w b cur t fz hg]
    rfl
  | v :: rest, i, cur, w, hg, hfz, hl, h1 => by
    have hi : o + i < cur.size := by simp at hl; omega
    have hadd : (⟨b, o, none⟩ : Addr).add i = ⟨b, o + i, none⟩ := by unfold Addr.add; split <;> simp_all
    have hcell : w.cell? ⟨b, o + i, none⟩ = some cur[o + i] := by simp [World.cell?, hg, hi]
    have hfro : w.frozen? ⟨b, o + i, none⟩ = false := by
      obtain ⟨lo, hi'⟩ := fz
      simp only [World.frozen?, hg]
      have hf' : lo = hi' ∨ cur.size ≤ lo := hfz
      cases hb : (decide (lo ≤ o + i) && decide (o + i < hi'))
      · rfl
      · simp at hb; omega
    have hst : (store ((⟨b, o, none⟩ : Addr).add i) v).run P w = .ok () (w.setRow b (cur.setIfInBounds (o + i) v)) := by
      rw [hadd, run_store P w _ v _ (h1 v (by simp)), hcell]
      simp [hfro, setCell_eq_setRow w b (o + i) cur t fz v hg]
    have ih := run_cells P b o t fz rest (i + 1) (cur.setIfInBounds (o + i) v) (w.setRow b (cur.setIfInBounds (o + i) v)) (setRow_heap w b cur _ t _ hg) (by simpa using hfz) (by simp at hl ⊢; omega) (fun x hx => h1 x (by simp [hx]))
    simp only [storeCells, Sem.run_bind, hst, Result.andThen_ok, ih, setRow_setRow]
    unfold spl
    congr 3
    have e := list_seg_step cur.toList (o + i) v rest (by simp at hl ⊢; omega)
    simpa [Array.toList_setIfInBounds, Nat.add_assoc] using e

/-- What a store of cells into a block does to an allocation that reads it. -/
theorem CellR.heap_setRow {M s blk base z room : Nat} {c : Array Value} {e : TypeId} {fr : Nat × Nat} (hc : CellR g M w s blk base z room c e fr) (c' : Array Value) :
    (w.setRow blk c').heap[blk]? = some (.cells c' e fr) := setRow_heap w blk c c' e fr hc.heap

theorem getD_mem {vs : List Value} {v : Value} (h : v ∈ vs) : ∃ i, i < vs.length ∧ vs.getD i undef = v := by
  obtain ⟨i, hi, e⟩ := List.getElem_of_mem h
  exact ⟨i, hi, by simp [hi, e]⟩

/-- A store of cells. -/
theorem HR.store (h : HR g st w) (P : Program) {s blk base z room o n cw : Nat} (hr : g.rho s = .cells blk base z room) (hl : Live st.M s z) (ho : o + n ≤ z) (hcw : cw < 2 ^ (128 * n)) (vs : List Value) (hn : vs.length = n)
    (hv : ∀ i, i < n → VR g (gt cw i) (vs.getD i undef)) :
    ∃ w', (storeCells ⟨blk, base + o, none⟩ vs).run P w = .ok () w' ∧ HR g { st with M := up st.M (s + o) n cw } w' ∧ Fr g w g w' := by
  obtain ⟨c, e, fr, hc⟩ := h.cells s blk base z room hr
  have hsz := hc.size
  have hrm := hc.room
  have hlen : base + o + vs.length ≤ c.size := by omega
  have hone : ∀ v ∈ vs, v.oneCell' = true := fun v hm => by
    obtain ⟨i, hi, e⟩ := getD_mem hm
    have := (hv i (by omega)).one
    rwa [e] at this
  have hrun := run_cells P blk (base + o) e fr vs 0 c w hc.heap (hc.thaw hl) (by omega) hone
  rw [Nat.add_zero] at hrun
  have ht := h.top s (by rw [hr]; simp)
  rw [hr] at ht
  have ez : (Info.cells blk base z room).size = z := rfl
  rw [ez] at ht
  have hs' := spl_size c hlen
  have far : ∀ s', s' ≠ s → g.rho s' ≠ .free → ∀ j, j ≤ (g.rho s').size → gt (up st.M (s + o) n cw) (s' + j) = gt st.M (s' + j) := fun s' hs' hf j hj => by
    rw [gt_up _ _ _ hcw, if_neg]
    rcases Nat.lt_or_gt_of_ne hs' with hlt | hgt
    · have := h.disj s' s hlt hf (by rw [hr]; simp); omega
    · have := h.disj s s' hgt (by rw [hr]; simp) hf
      rw [hr, ez] at this; omega
  have live : ∀ s' z' b base r, g.rho s' = .cells b base z' r → Live (up st.M (s + o) n cw) s' z' → Live st.M s' z' := by
    rintro s' z' b ba r e' hlv
    by_cases es : s' = s
    · subst es; rw [hr] at e'; injection e' with _ _ e2 _; subst e2; exact hl
    · obtain ⟨j, hj, hg⟩ := hlv
      exact ⟨j, hj, by rwa [far s' es (by rw [e']; simp) j (by rw [e']; exact Nat.le_of_lt hj)] at hg⟩
  refine ⟨_, hrun, ⟨h.S, h.nS, h.Slt, up_lt h.Mlt (show s + o + n ≤ st.nM by omega) hcw, h.Rlt, h.top, h.disj, ?_, ?_, ?_, ?_, h.minj⟩, ⟨rfl, rfl, rfl, by simp, Gh.le.refl _, fun b _ hb => ?_, fun _ _ h => h⟩⟩
  · intro s' blk' base' z' room' hs2
    obtain ⟨c2, e2, fr2, hc2⟩ := h.cells s' blk' base' z' room' hs2
    by_cases eb : blk' = blk
    · subst eb
      have h12 : c2 = c ∧ e2 = e ∧ fr2 = fr := by have := hc2.heap.symm.trans hc.heap; injection this with this; injection this with a b d; exact ⟨a, b, d⟩
      obtain ⟨rfl, rfl, rfl⟩ := h12
      refine ⟨spl c2 (base + o) vs, e2, fr2, hc.heap_setRow _, by rw [hs']; exact hc2.size, hc2.room, fun i hi => ?_, fun j hj => ?_, fun _ => by rw [hs']; exact hc.thaw hl⟩
      · rw [spl_getD c2 hlen]; rw [hs'] at hi
        by_cases hq : base + o ≤ i ∧ i < base + o + vs.length
        · rw [if_pos hq]; exact (hv _ (by omega)).one
        · rw [if_neg hq]; exact hc.one i hi
      · by_cases es : s' = s
        · subst es
          rw [hr] at hs2; injection hs2 with _ e3 e4 e5
          subst e3; subst e4; subst e5
          rw [spl_getD c2 hlen]
          show VR g (gt (up st.M (s' + o) n cw) (s' + j)) _
          rw [gt_up _ _ _ hcw]
          by_cases hj2 : o ≤ j ∧ j < o + n
          · rw [if_pos (by omega), if_pos (by omega), show s' + j - (s' + o) = j - o by omega, show base + j - (base + o) = j - o by omega]
            exact hv _ (by omega)
          · rw [if_neg (by omega), if_neg (by omega)]; exact hc.vr j hj
        · have hdead : ¬ Live st.M s' z' := fun hl' => h.inj s s' blk' base z room base' z' room' (Ne.symm es) hr hs2 hl hl'
          show VR g (gt (up st.M (s + o) n cw) (s' + j)) _
          rw [far s' es (by rw [hs2]; simp) j (by rw [hs2]; exact Nat.le_of_lt hj)]
          have : gt st.M (s' + j) = 0 := by
            cases hz : gt st.M (s' + j) with
            | zero => rfl
            | succ k => exact absurd ⟨j, hj, by rw [hz]; simp⟩ hdead
          rw [this]
          refine .unk _ ?_
          have hjc : base' + j < c2.size := by have := hc2.size; have := hc2.room; omega
          rw [spl_getD c2 hlen]
          by_cases hq : base + o ≤ base' + j ∧ base' + j < base + o + vs.length
          · rw [if_pos hq]; exact (hv _ (by omega)).one
          · rw [if_neg hq]; exact hc.one _ hjc
    · refine ⟨c2, e2, fr2, by rw [setRow_other _ _ _ _ eb]; exact hc2.heap, hc2.size, hc2.room, hc2.one, fun j hj => ?_, fun hl' => hc2.thaw (live s' z' _ _ _ hs2 hl')⟩
      have es : s' ≠ s := by rintro rfl; rw [hr] at hs2; injection hs2 with a; exact eb a.symm
      show VR g (gt (up st.M (s + o) n cw) (s' + j)) _
      rw [far s' es (by rw [hs2]; simp) j (by rw [hs2]; exact Nat.le_of_lt hj)]
      exact hc2.vr j hj
  · intro s' ws hs2 i hi
    have es : s' ≠ s := by rintro rfl; rw [hr] at hs2; cases hs2
    show gt (up st.M (s + o) n cw) (s' + i) = _
    rw [far s' es (by rw [hs2]; simp) i (by rw [hs2]; exact Nat.le_of_lt hi)]
    exact h.rows s' ws hs2 i hi
  · intro s' b hs2
    have es : s' ≠ s := by rintro rfl; rw [hr] at hs2; cases hs2
    have := far s' es (by rw [hs2]; simp) 0 (Nat.zero_le _)
    rw [Nat.add_zero] at this
    obtain ⟨x, hx, hm⟩ := h.maps s' b hs2
    refine ⟨x, ?_, by show MapR g (gt (up st.M (s + o) n cw) s') x; rw [this]; exact hm⟩
    rw [setRow_other _ _ _ _ (fun eb => ?_)]
    · exact hx
    · subst eb; rw [hc.heap] at hx; injection hx with hx; subst hx
      obtain ⟨_, _, _, _, _, _, _, _, _, _, _, h6, _⟩ := hm
      cases h6
  · intro s1 s2 b base1 z1 room1 base2 z2 room2 hne h1 h2 l1 l2
    exact h.inj s1 s2 b base1 z1 room1 base2 z2 room2 hne h1 h2 (live s1 z1 _ _ _ h1 l1) (live s2 z2 _ _ _ h2 l2)
  · refine setRow_other _ _ _ _ (fun eb => hb ?_)
    subst eb; exact .inl ⟨s, base, z, room, hr⟩

end
end Ev
end Go.Proofs.YtgdibfnpkcdiiaaGreatDoor
