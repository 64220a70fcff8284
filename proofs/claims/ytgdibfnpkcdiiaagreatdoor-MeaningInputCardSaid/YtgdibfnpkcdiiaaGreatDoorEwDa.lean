/- An operation that may come early: its block is nobody's until the evaluator comes to it. No condition. -/
import Derived.Test.YtgdibfnpkcdiiaaGreatDoorEwD
namespace Go.Proofs.YtgdibfnpkcdiiaaGreatDoor
namespace Ev

section
variable {g : Gh} {st : St} {w : World}

/-- A block that was nobody's is given to an allocation. -/
theorem HR.adopt (h : HR g st w) {c : Array Value} {e : TypeId} {blk : Nat} (hb : w.heap[blk]? = some (.cells c e (0, 0))) (ho : ¬ Own g blk) {cw : Nat} (hcw : cw < 2 ^ (128 * c.size)) (hv : ∀ i, i < c.size → VR g (gt cw i) (c.getD i undef)) :
    HR (g.put st.nM (.cells blk 0 c.size c.size)) { st with M := ad st.M st.nM cw, nM := st.nM + c.size + 1 } w := by
  refine HR.grown h (i := .cells blk 0 c.size c.size) (cw_more hcw) (by simp) ?_ (fun _ _ _ => rfl) ?_ (fun ws hw => by cases hw) (fun b hb => by cases hb)
  · intro s blk base z room c' e' fr' _ hc
    exact ⟨c', e', fr', hc.heap, rfl, hc.one, fun _ => ⟨rfl, rfl⟩⟩
  · intro b base z room hi
    injection hi with h1 h2 h3 h4
    subst h1; subst h2; subst h3; subst h4
    refine ⟨⟨c, e, (0, 0), hb, by omega, Nat.le_refl _, fun i hi => (hv i hi).one, fun o ho => ?_, fun _ => .inl rfl⟩, fun s base' z' room' hs => ?_⟩
    · rw [gt_ad _ _ h.Mlt, if_neg (by omega), show st.nM + o - st.nM = o by omega, Nat.zero_add]
      exact (hv o ho).mono (Gh.put_le _ (rho_top h (Nat.le_refl _)))
    · exact absurd (.inl ⟨s, base', z', room', hs⟩) ho

theorem own_put {s blk n m k : Nat} {b : Nat} (h : Own (g.put s (.cells blk k n m)) b) : Own g b ∨ b = blk := by
  rcases h with ⟨t, base, z, room, ht⟩ | ⟨t, ht⟩
  · rw [Gh.put_rho] at ht
    split at ht
    · injection ht with h1; exact .inr h1.symm
    · exact .inl (.inl ⟨t, base, z, room, ht⟩)
  · rw [Gh.put_rho] at ht
    split at ht
    · cases ht
    · exact .inl (.inr ⟨t, ht⟩)
end

/-- An operation that makes a new block, always the same. -/
structure AcV (P : Program) (K : Kon) (o : Oper) (zs : Array Value) (el : TypeId) (vf : Addr → Value) : Prop where
  gd : o.guard = none
  run : ∀ (a : Act) (w : World), (execOp a.eval o).run P w = .ok (.value (vf ⟨w.heap.size, 0, none⟩)) (w.alloc (.cells zs el (0, 0)))
  adopt : ∀ (call : Nat → St → RS) (g : Gh) (st : St) (w : World) (x : Nat) (st' : St) (blk : Nat), K.In g → HR g st w → w.heap[blk]? = some (.cells zs el (0, 0)) → ¬ Own g blk → runCO call (cO P K o) st = .ok x st' →
    ∃ g', HR g' st' w ∧ g.le g' ∧ (∀ b, Own g' b → Own g b ∨ b = blk) ∧ TR g' st'.R st'.nR x (vf ⟨blk, 0, none⟩) ∧ st'.T = st.T ∧ st'.D = st.D ∧ Ext st.R st.nR st'.R st'.nR

theorem acC_spec {o : Oper} (h : acC o = true) : o.guard = none ∧ ∃ d, o.dst = some d := by
  simp only [acC, Bool.and_eq_true] at h
  exact ⟨by simpa using h.1.1, Option.isSome_iff_exists.1 h.1.2⟩

section
variable {P : Program} {K : Kon} {o : Oper}

theorem ac_alloc {g0 : Gh} (_hk0 : K.In g0) {t : TypeId} {i : TypeInfo} {z : Value} (hg : o.guard = none) (ho : o.op = .alloc t) (hi : P.info? t = some i) (hz : i.zero = some z) (hb : cells0B K z.cells.toList = true) (hn : z.cells.size < 16777216) :
    AcV P K o z.cells t fun a => .pointer (some a) := by
  refine ⟨hg, fun a w => ?_, fun call g st w x st' blk hk hh hbl hown e => ?_⟩
  · have : (newVar t z).run P w = .ok ⟨w.heap.size, 0, none⟩ (w.alloc (.cells z.cells t (0, 0))) := by simp [newVar, newRow]
    simp [execOp, ho, Instr.alloc, zeroValue, run_typ hi, hz, this]
  · have hco : cO P K o = .op (opAl z.cells.size (cells0 K z.cells.toList)) := by simp [cO, cOper, ho, hi, hz, hb, hn]
    rw [hco] at e
    change opAl z.cells.size (cells0 K z.cells.toList) st = .ok x st' at e
    unfold opAl at e
    obtain ⟨h1, e⟩ := sel_ok e
    rw [fc_eq] at e
    injection e with e1 e2
    have h1 := blt_t h1
    simp only [nA, nM] at e1 e2
    obtain ⟨c1, c2⟩ := cells0_ok hk hb
    rw [Array.length_toList] at c1 c2
    have hr := hh.adopt hbl hown c1 (fun j hj => by
      have := c2 j hj
      rwa [List.getD_eq_getElem?_getD, Array.getElem?_toList, ← Array.getD_eq_getD_getElem?] at this)
    subst e2
    refine ⟨_, hr, Gh.put_le _ (rho_top hh (Nat.le_refl _)), fun b => own_put, ?_, rfl, rfl, Ext.refl _ _⟩
    have : x = ePtr st.nM z.cells.size 0 := by rw [← e1]; rfl
    rw [this]
    exact .cell _ _ (.ptr st.nM z.cells.size 0 blk 0 z.cells.size h1 hn (by rw [Gh.put_rho, if_pos rfl]) (Nat.zero_le _))

theorem sli_word {g : Gh} {s l e blk x : Nat} (hs : s < 16777216) (hz : l * e < 16777216) (hl : l < 16777216) (he : e < 256) (hr : g.rho s = .cells blk 0 (l * e) (l * e))
    (e1 : 7 + 16 * s + 268435456 * (l * e) + 4503599627370496 * l + 75557863725914323419136 * e = x) : VR g x (.slice (some ⟨blk, 0, none⟩) l l) := by
  have : x = eSli s (l * e) l e 0 := by rw [← e1]; rfl
  rw [this]
  exact .sli s (l * e) l e 0 blk 0 (l * e) l _ hs hz hl he hr (by omega) (Nat.le_refl _) (.inr ⟨rfl, by omega⟩)

theorem ac_slice {g0 : Gh} (hk0 : K.In g0) {t el : TypeId} {v : Value} {q : TypeInfo} {d : TypeDesc} {z : Value} (hg : o.guard = none) (ho : o.op = .buildSlice t 1 #[(0, .const v)]) (ht : P.underlying t = some (.slice el)) (hq : P.info? el = some q) (hd : P.underlying el = some d)
    (hz : q.zero = some z) (hs : q.size = 1) (ha : aggB d = false) (hc : cellB (cV K v) = true) : AcV P K o #[v] el fun a => .slice (some a) 1 1 := by
  have hv1 : v.oneCell' = true := ((cV_ok hk0 0 0 v).cellB hc).one
  have hcs := cells_one hv1
  refine ⟨hg, fun a w => ?_, fun call g st w x st' blk hk hh hbl hown e => ?_⟩
  · simp [execOp, ho, Instr.buildSlice, run_underlying ht, run_siz hq, hs, zeroValue, run_typ hq, hz, Instr.fill, Act.eval, hcs, newRow]
    rw [show Array.range 1 = #[0] from rfl, List.map_toArray]; rfl
  · have hco : cO P K o = no ∨ (cells0B K (zeros z (1 * q.size)).toList = true ∧ cO P K o = .op (opBs 1 1 (cells0 K (zeros z (1 * q.size)).toList) [⟨0, 0, .c (cV K v)⟩])) := by
      have e0 : cO P K o = cBuildS P K t 1 #[(0, .const v)] := by simp only [cO, cOper, ho]
      rw [e0]
      unfold cBuildS
      simp only [ht, hq, hd, hz]
      rw [if_neg (by simp)]
      split
      · rename_i h0
        refine .inr ⟨h0.1, ?_⟩
        simp [cPrts, cPrt, hs, ha, cOp]
      · left; rfl
    rcases hco with hco | ⟨hb, hco⟩
    · rw [hco] at e; cases e
    · rw [hco] at e
      change opBs 1 1 (cells0 K (zeros z (1 * q.size)).toList) [⟨0, 0, .c (cV K v)⟩] st = .ok x st' at e
      unfold opBs at e
      obtain ⟨h1, e⟩ := sel_ok e
      have h1 := blt_t h1
      rw [bfill_cons] at e
      have hrd : ∀ T, rd T (.c (cV K v)) = cV K v := fun _ => rfl
      simp only [hrd, hc, sel_true, bfill_nil, show Nat.beq 0 0 = true from rfl, fc_eq] at e
      injection e with e1 e2
      simp only [nA, nM] at e1 e2
      obtain ⟨c1, _⟩ := cells0_ok hk hb
      have hlen : (zeros z (1 * q.size)).toList.length = 1 := by simp [zeros, hs]
      rw [hlen] at c1
      have hvr : VR g (cV K v) v := (cV_ok hk 0 0 v).cellB hc
      have hvl : cV K v < 2 ^ (128 * 1) := by simpa using hvr.lt
      have hup : up (cells0 K (zeros z (1 * q.size)).toList) 0 1 (cV K v) < 2 ^ (128 * 1) := up_lt c1 (by omega) hvl
      have hr := hh.adopt hbl hown (cw := up (cells0 K (zeros z (1 * q.size)).toList) 0 1 (cV K v)) hup (fun j hj => by
        have hj : j = 0 := by simpa using hj
        subst hj
        rw [gt_up _ _ _ hvl, if_pos (by omega), gt_word _ hvr.lt, if_pos rfl]; exact hvr)
      subst e2
      refine ⟨_, hr, Gh.put_le _ (rho_top hh (Nat.le_refl _)), fun b => own_put, ?_, rfl, rfl, Ext.refl _ _⟩
      exact .cell _ _ (sli_word (l := 1) (e := 1) h1 (by decide) (by decide) (by decide) (by rw [Gh.put_rho, if_pos rfl]; rfl) e1)

theorem acO_ok {g0 : Gh} (hk0 : K.In g0) (h : acO P K o = true) : ∃ zs el vf, AcV P K o zs el vf := by
  simp only [acO, Bool.and_eq_true] at h
  obtain ⟨hg, _⟩ := acC_spec h.1
  have h2 := h.2
  split at h2
  · rename_i t ho
    cases hi : P.info? t with
    | none => rw [hi] at h2; cases h2
    | some i =>
      rw [hi, Option.any_some] at h2
      cases hz : i.zero with
      | none => rw [hz] at h2; cases h2
      | some z =>
        rw [hz, Option.any_some, Bool.and_eq_true] at h2
        exact ⟨_, _, _, ac_alloc hk0 hg ho hi hz h2.1 (by simpa using h2.2)⟩
  · rename_i t v ho
    split at h2
    · rename_i el ht
      split at h2
      · rename_i q d hq hd
        simp only [Bool.and_eq_true] at h2
        obtain ⟨⟨⟨b1, b2⟩, b3⟩, b4⟩ := h2
        obtain ⟨z, hz⟩ := Option.isSome_iff_exists.1 b1
        exact ⟨_, _, _, ac_slice hk0 hg ho ht hq hd hz (beq_t b2) (by simpa using b3) b4⟩
      · cases h2
    · cases h2
  · cases h2
end
end Ev
end Go.Proofs.YtgdibfnpkcdiiaaGreatDoor
