/- The memory under the rows of words: the relation HR, the frame Fr, and what an allocation, a load, a store, an append do to them. No condition. -/
import Derived.Test.YtgdibfnpkcdiiaaGreatDoorEvB
import Derived.Lib.FrozenHead
import Derived.Laws.Cells
import Derived.Laws.NewFold
namespace Go.Proofs.YtgdibfnpkcdiiaaGreatDoor
namespace Ev

structure St where
  T : Nat
  D : List (Nat × List Nat)
  R : Nat
  nR : Nat
  M : Nat
  nM : Nat
  S : Nat
  nS : Nat

@[reducible] noncomputable def setM (M nM : Nat) (st : St) : St := St.rec (fun T D R nR _ _ S nS => ⟨T, D, R, nR, M, nM, S, nS⟩) st
@[reducible] noncomputable def setR (R nR : Nat) (st : St) : St := St.rec (fun T D _ _ M nM S nS => ⟨T, D, R, nR, M, nM, S, nS⟩) st
@[reducible] noncomputable def setS (S nS : Nat) (st : St) : St := St.rec (fun T D R nR M nM _ _ => ⟨T, D, R, nR, M, nM, S, nS⟩) st
@[reducible] noncomputable def setD (D : List (Nat × List Nat)) (st : St) : St := St.rec (fun T _ R nR M nM S nS => ⟨T, D, R, nR, M, nM, S, nS⟩) st

def Info.size : Info → Nat
  | .free => 0
  | .cells _ _ z _ => z
  | .row ws => ws.length
  | .map _ => 1

def eMp (c nv s : Nat) : Nat := 14 + 16 * c + 268435456 * nv + 68719476736 * s

/-- A value that stands in so many words from a place on (0: one word, no row). -/
def ValR (g : Gh) (ws : List Nat) (b nv : Nat) (v : Value) : Prop :=
  if nv = 0 then VR g (ws.getD b 0) v else ∃ vs : Array Value, v = .agg vs ∧ vs.size = nv ∧ ∀ i, i < nv → VR g (ws.getD (b + i) 0) (vs.getD i undef)

def stride (nv : Nat) : Nat := if nv = 0 then 2 else nv + 1

def MapR (g : Gh) (m : Nat) (o : Obj) : Prop :=
  ∃ c nv s ws es clock, m = eMp c nv s ∧ c < 16777216 ∧ nv < 256 ∧ s < 16777216 ∧ g.rho s = .row ws ∧ o = .map es clock ∧ es.size = c ∧ ws.length = c * stride nv ∧
    ∀ i (h : i < es.size), VR g (ws.getD (i * stride nv) 0) es[i].key ∧ ValR g ws (i * stride nv + 1) nv es[i].val

/-- A block that an allocation stands for. -/
def Own (g : Gh) (b : Nat) : Prop := (∃ s base z room, g.rho s = .cells b base z room) ∨ ∃ s, g.rho s = .map b

def Live (M s z : Nat) : Prop := ∃ o, o < z ∧ gt M (s + o) ≠ 0

def Thaw (fr : Nat × Nat) (n : Nat) : Prop := fr.1 = fr.2 ∨ n ≤ fr.1

structure CellR (g : Gh) (M : Nat) (w : World) (s blk base z room : Nat) (c : Array Value) (e : TypeId) (fr : Nat × Nat) : Prop where
  heap : w.heap[blk]? = some (.cells c e fr)
  size : c.size = base + room
  room : z ≤ room
  one : ∀ i, i < c.size → (c.getD i undef).oneCell' = true
  vr : ∀ o, o < z → VR g (gt M (s + o)) (c.getD (base + o) undef)
  thaw : Live M s z → Thaw fr c.size

structure HR (g : Gh) (st : St) (w : World) : Prop where
  S : st.S = g.S
  nS : st.nS = g.nS
  Slt : st.S < 2 ^ (8 * st.nS)
  Mlt : st.M < 2 ^ (128 * st.nM)
  Rlt : st.R < 2 ^ (128 * st.nR)
  top : ∀ s, g.rho s ≠ .free → s + (g.rho s).size < st.nM
  disj : ∀ s s', s < s' → g.rho s ≠ .free → g.rho s' ≠ .free → s + (g.rho s).size < s'
  cells : ∀ s blk base z room, g.rho s = .cells blk base z room → ∃ c e fr, CellR g st.M w s blk base z room c e fr
  rows : ∀ s ws, g.rho s = .row ws → ∀ i, i < ws.length → gt st.M (s + i) = ws.getD i 0
  maps : ∀ s blk, g.rho s = .map blk → ∃ o, w.heap[blk]? = some o ∧ MapR g (gt st.M s) o
  inj : ∀ s s' blk base z room base' z' room', s ≠ s' → g.rho s = .cells blk base z room → g.rho s' = .cells blk base' z' room' → Live st.M s z → ¬ Live st.M s' z'
  minj : ∀ s s' blk, g.rho s = .map blk → g.rho s' = .map blk → s = s'

structure Fr (g : Gh) (w : World) (g' : Gh) (w' : World) : Prop where
  os : w'.os = w.os
  tape : w'.tape = w.tape
  output : w'.output = w.output
  size : w.heap.size ≤ w'.heap.size
  le : g.le g'
  keep : ∀ b, b < w.heap.size → ¬ Own g b → w'.heap[b]? = w.heap[b]?
  own : ∀ b, b < w.heap.size → Own g' b → Own g b

theorem Fr.refl (g : Gh) (w : World) : Fr g w g w := ⟨rfl, rfl, rfl, Nat.le_refl _, Gh.le.refl _, fun _ _ _ => rfl, fun _ _ h => h⟩
theorem Fr.trans {g g1 g2 : Gh} {w w1 w2 : World} (h : Fr g w g1 w1) (k : Fr g1 w1 g2 w2) : Fr g w g2 w2 :=
  ⟨k.os.trans h.os, k.tape.trans h.tape, k.output.trans h.output, Nat.le_trans h.size k.size, h.le.trans k.le,
    fun b hb ho => (k.keep b (Nat.lt_of_lt_of_le hb h.size) (fun o => ho (h.own b hb o))).trans (h.keep b hb ho),
    fun b hb ho => h.own b hb (k.own b (Nat.lt_of_lt_of_le hb h.size) ho)⟩

/-- Only the heap counts. -/
theorem CellR.congr {g : Gh} {M : Nat} {w w' : World} (e : w'.heap = w.heap) {s blk base z room : Nat} {c : Array Value} {t : TypeId} {fr : Nat × Nat}
    (h : CellR g M w s blk base z room c t fr) : CellR g M w' s blk base z room c t fr := ⟨by rw [e]; exact h.heap, h.size, h.room, h.one, h.vr, h.thaw⟩
theorem HR.congr {g : Gh} {st : St} {w w' : World} (e : w'.heap = w.heap) (h : HR g st w) : HR g st w' :=
  ⟨h.S, h.nS, h.Slt, h.Mlt, h.Rlt, h.top, h.disj, fun s blk base z room hs => let ⟨c, t, fr, hc⟩ := h.cells s blk base z room hs; ⟨c, t, fr, hc.congr e⟩,
    h.rows, fun s blk hs => by rw [e]; exact h.maps s blk hs, h.inj, h.minj⟩
theorem HR.drew {g : Gh} {st : St} {w : World} (h : HR g st w) (n : Nat) : HR g st { w with drawn := n } := HR.congr (w := w) rfl h
theorem Fr.drew (g : Gh) (w : World) (n : Nat) : Fr g w g { w with drawn := n } := ⟨rfl, rfl, rfl, Nat.le_refl _, Gh.le.refl _, fun _ _ _ => rfl, fun _ _ h => h⟩

/-- The frame's own rows may change. -/
theorem HR.frame {g : Gh} {st : St} {w : World} (h : HR g st w) (T : Nat) (D : List (Nat × List Nat)) {R nR : Nat} (hR : R < 2 ^ (128 * nR)) : HR g { st with T := T, D := D, R := R, nR := nR } w :=
  ⟨h.S, h.nS, h.Slt, h.Mlt, hR, h.top, h.disj, h.cells, h.rows, h.maps, h.inj, h.minj⟩

theorem own_lt {g : Gh} {st : St} {w : World} (h : HR g st w) {b : Nat} (o : Own g b) : b < w.heap.size := by
  rcases o with ⟨s, base, z, room, hs⟩ | ⟨s, hs⟩
  · obtain ⟨c, e, fr, hc⟩ := h.cells s b base z room hs
    exact (Array.getElem?_eq_some_iff.1 hc.heap).1
  · obtain ⟨o, ho, _⟩ := h.maps s b hs
    exact (Array.getElem?_eq_some_iff.1 ho).1

theorem rho_top {g : Gh} {st : St} {w : World} (h : HR g st w) {s : Nat} (hs : st.nM ≤ s) : g.rho s = .free := by
  cases hr : g.rho s with
  | free => rfl
  | _ => have := h.top s (by rw [hr]; simp); omega

theorem MapR.mono {g g' : Gh} (h : g.le g') {m : Nat} {o : Obj} (k : MapR g m o) : MapR g' m o := by
  obtain ⟨c, nv, s, ws, es, clock, h1, h2, h3, h4, h5, h6, h7, h8, h9⟩ := k
  refine ⟨c, nv, s, ws, es, clock, h1, h2, h3, h4, by rw [h.rho s (by rw [h5]; simp), h5], h6, h7, h8, fun i hi => ⟨(h9 i hi).1.mono h, ?_⟩⟩
  have := (h9 i hi).2
  unfold ValR at *
  split
  · rename_i h0; rw [if_pos h0] at this; exact this.mono h
  · rename_i h0; rw [if_neg h0] at this
    obtain ⟨vs, e1, e2, e3⟩ := this
    exact ⟨vs, e1, e2, fun j hj => (e3 j hj).mono h⟩

/-- One allocation more. -/
def Gh.put (g : Gh) (s : Nat) (i : Info) : Gh := { g with rho := fun t => if t = s then i else g.rho t }
theorem Gh.put_rho (g : Gh) (s : Nat) (i : Info) (t : Nat) : (g.put s i).rho t = if t = s then i else g.rho t := rfl
theorem Gh.put_le {g : Gh} {s : Nat} (i : Info) (h : g.rho s = .free) : g.le (g.put s i) :=
  ⟨fun t ht => by rw [Gh.put_rho, if_neg (fun (e : t = s) => ht (by rw [e]; exact h))], Nat.le_refl _, fun _ _ => rfl, rfl⟩

theorem vr_zero_one {g : Gh} {v : Value} (h : v.oneCell' = true) : VR g 0 v := .unk v h

theorem live_ad {M n s z : Nat} (c : Nat) (hM : M < 2 ^ (128 * n)) (h : s + z ≤ n) : Live (ad M n c) s z ↔ Live M s z := by
  constructor <;> rintro ⟨o, ho, hg⟩ <;> refine ⟨o, ho, ?_⟩
  · rwa [gt_ad _ _ hM, if_pos (by omega)] at hg
  · rwa [gt_ad _ _ hM, if_pos (by omega)]

section
variable {g : Gh} {st : St} {w : World}

/-- What all of the laws below come to: the memory is laid anew behind nM, or in a place, the ghost being the old one, or with one allocation more. -/
theorem HR.grown (h : HR g st w) {i : Info} {cw : Nat} (hcw : cw < 2 ^ (128 * (i.size + 1))) {w' : World} (_hi : i ≠ .free)
    (hold : ∀ s blk base z room c e fr, g.rho s = .cells blk base z room → CellR g st.M w s blk base z room c e fr → ∃ c' e' fr', w'.heap[blk]? = some (.cells c' e' fr') ∧ c'.size = c.size ∧ (∀ i, i < c'.size → (c'.getD i undef).oneCell' = true) ∧
      (Live st.M s z → c' = c ∧ fr' = fr))
    (hmap : ∀ s blk, g.rho s = .map blk → w'.heap[blk]? = w.heap[blk]?)
    (hnew : ∀ blk base z room, i = .cells blk base z room → (∃ c e fr, CellR (g.put st.nM i) (ad st.M st.nM cw) w' st.nM blk base z room c e fr) ∧ ∀ s base' z' room', g.rho s = .cells blk base' z' room' → ¬ Live st.M s z')
    (hrow : ∀ ws, i = .row ws → ∀ j, j < ws.length → gt cw j = ws.getD j 0)
    (hm : ∀ blk, i = .map blk → (∃ o, w'.heap[blk]? = some o ∧ MapR (g.put st.nM i) (gt cw 0) o) ∧ ∀ s, g.rho s ≠ .map blk) :
    HR (g.put st.nM i) { st with M := ad st.M st.nM cw, nM := st.nM + i.size + 1 } w' := by
  have hfree : g.rho st.nM = .free := rho_top h (Nat.le_refl _)
  have hle := Gh.put_le i hfree
  have hne : ∀ s, g.rho s ≠ .free → s ≠ st.nM := fun s hs e => hs (e ▸ hfree)
  have hold' : ∀ s, g.rho s ≠ .free → ∀ o, o ≤ (g.rho s).size → gt (ad st.M st.nM cw) (s + o) = gt st.M (s + o) := fun s hs o ho => by
    have := h.top s hs
    rw [gt_ad _ _ h.Mlt, if_pos (by omega)]
  refine ⟨h.S, h.nS, h.Slt, by have := ad_lt h.Mlt hcw; rwa [← Nat.add_assoc] at this, h.Rlt, ?_, ?_, ?_, ?_, ?_, ?_, ?_⟩
  · intro s hs
    rw [Gh.put_rho] at hs ⊢
    split
    · rename_i e; subst e; dsimp only; omega
    · rename_i e; rw [if_neg e] at hs; have := h.top s hs; dsimp only; omega
  · intro s s' hlt hs hs'
    rw [Gh.put_rho] at hs hs' ⊢
    by_cases e : s = st.nM
    · subst e
      rw [if_neg (by omega)] at hs'
      have := h.top s' hs'; omega
    · rw [if_neg e] at hs ⊢
      by_cases e' : s' = st.nM
      · subst e'; exact h.top s hs
      · rw [if_neg e'] at hs'; exact h.disj s s' hlt hs hs'
  · intro s blk base z room hs
    rw [Gh.put_rho] at hs
    by_cases e : s = st.nM
    · subst e; rw [if_pos rfl] at hs; exact (hnew _ _ _ _ hs).1
    · rw [if_neg e] at hs
      obtain ⟨c, t, fr, hc⟩ := h.cells s blk base z room hs
      obtain ⟨c', t', fr', h1, h2, h3, h4⟩ := hold s blk base z room c t fr hs hc
      have ht := h.top s (by rw [hs]; simp)
      rw [hs] at ht
      refine ⟨c', t', fr', h1, by rw [h2, hc.size], hc.room, h3, fun o ho => ?_, fun hl => ?_⟩
      · rw [hold' s (by rw [hs]; simp) o (by rw [hs]; exact Nat.le_of_lt ho)]
        by_cases hz : gt st.M (s + o) = 0
        · rw [hz]; exact .unk _ (h3 _ (by rw [h2, hc.size]; have := hc.room; omega))
        · rw [(h4 ⟨o, ho, hz⟩).1]; exact (hc.vr o ho).mono hle
      · have hl' := (live_ad cw h.Mlt (Nat.le_of_lt ht)).1 hl
        rw [(h4 hl').1, (h4 hl').2]; exact hc.thaw hl'
  · intro s ws hs j hj
    rw [Gh.put_rho] at hs
    by_cases e : s = st.nM
    · subst e; rw [if_pos rfl] at hs
      rw [gt_ad _ _ h.Mlt, if_neg (by omega), show st.nM + j - st.nM = j by omega]
      exact hrow ws hs j hj
    · rw [if_neg e] at hs
      rw [hold' s (by rw [hs]; simp) j (by rw [hs]; exact Nat.le_of_lt hj)]
      exact h.rows s ws hs j hj
  · intro s blk hs
    rw [Gh.put_rho] at hs
    by_cases e : s = st.nM
    · subst e; rw [if_pos rfl] at hs
      rw [gt_ad _ _ h.Mlt, if_neg (by omega), Nat.sub_self]
      exact (hm blk hs).1
    · rw [if_neg e] at hs
      obtain ⟨o, ho, hmr⟩ := h.maps s blk hs
      refine ⟨o, by rw [hmap s blk hs]; exact ho, ?_⟩
      have := hold' s (by rw [hs]; simp) 0 (by omega)
      rw [Nat.add_zero] at this
      rw [this]; exact hmr.mono hle
  · intro s s' blk base z room base' z' room' hne' hs hs' hl hl'
    rw [Gh.put_rho] at hs hs'
    by_cases e : s = st.nM
    · subst e
      rw [if_neg (Ne.symm hne')] at hs'
      rw [if_pos rfl] at hs
      have ht := h.top s' (by rw [hs']; simp)
      rw [hs'] at ht
      exact (hnew _ _ _ _ hs).2 _ _ _ _ hs' ((live_ad cw h.Mlt (Nat.le_of_lt ht)).1 hl')
    · rw [if_neg e] at hs
      have ht := h.top s (by rw [hs]; simp)
      rw [hs] at ht
      have l1 := (live_ad cw h.Mlt (Nat.le_of_lt ht)).1 hl
      by_cases e' : s' = st.nM
      · subst e'
        rw [if_pos rfl] at hs'
        exact (hnew _ _ _ _ hs').2 _ _ _ _ hs l1
      · rw [if_neg e'] at hs'
        have ht' := h.top s' (by rw [hs']; simp)
        rw [hs'] at ht'
        exact h.inj s s' blk base z room base' z' room' hne' hs hs' l1 ((live_ad cw h.Mlt (Nat.le_of_lt ht')).1 hl')
  · intro s s' blk hs hs'
    rw [Gh.put_rho] at hs hs'
    by_cases e : s = st.nM
    · subst e
      rw [if_pos rfl] at hs
      by_cases e' : s' = st.nM
      · exact e'.symm
      · rw [if_neg e'] at hs'; exact absurd hs' ((hm blk hs).2 s')
    · rw [if_neg e] at hs
      by_cases e' : s' = st.nM
      · subst e'; rw [if_pos rfl] at hs'; exact absurd hs ((hm blk hs').2 s)
      · rw [if_neg e'] at hs'; exact h.minj s s' blk hs hs'

theorem HR.load (h : HR g st w) {s blk base z room o : Nat} (hr : g.rho s = .cells blk base z room) (ho : o < z) : ∃ v, w.cell? ⟨blk, base + o, none⟩ = some v ∧ VR g (gt st.M (s + o)) v := by
  obtain ⟨c, t, fr, hc⟩ := h.cells s blk base z room hr
  have hlt : base + o < c.size := by have := hc.size; have := hc.room; omega
  refine ⟨c[base + o], by simp [World.cell?, hc.heap, hlt], ?_⟩
  have := hc.vr o ho
  rwa [Array.getD_eq_getD_getElem?, Array.getElem?_eq_getElem hlt, Option.getD_some] at this
end

end Ev
end Go.Proofs.YtgdibfnpkcdiiaaGreatDoor
