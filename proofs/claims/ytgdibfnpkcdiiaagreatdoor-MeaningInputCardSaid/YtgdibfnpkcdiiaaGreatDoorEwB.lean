/- Frames; a step of a region; regions in the text's order. No condition. -/
import Derived.Test.YtgdibfnpkcdiiaaGreatDoorEwA
import Derived.Orders
namespace Go.Proofs.YtgdibfnpkcdiiaaGreatDoor
namespace Ev

structure FR (g : Gh) (st : St) (a : Act) (n : Nat) : Prop where
  size : n ≤ a.tmps.size
  slot : ∀ t, TR g st.R st.nR (gt st.T t) (a.eval (.tmp t))
  defers : DR g st.R st.nR st.D a.defers

theorem put_eq (d : Nat) (x : Nat) (st : St) (k : St → RS) : put (some d) x st k = k { st with T := up1 st.T d x } := by
  cases st
  simp only [put, put1, fc_eq]
theorem put_none (x : Nat) (st : St) (k : St → RS) : put none x st k = k st := rfl
theorem gt_up1 {w : Nat} (T d k : Nat) (h : w < 2 ^ 128) : gt (up1 T d w) k = if k = d then w else gt T k := gt_set T d k h
theorem sMov_eq (d : Nat) (x : Opd) (st : St) (k : St → RS) : sMov d x st k = put (some d) (rd st.T x) st k := by cases st; rfl

/-- The state with a slot written. -/
noncomputable def stPut (st : St) (d : Option Nat) (x : Nat) : St := match d with
  | some d => { st with T := up1 st.T d x }
  | none => st
theorem put_st (d : Option Nat) (x : Nat) (st : St) (k : St → RS) : put d x st k = k (stPut st d x) := by
  cases d with
  | none => rfl
  | some d => exact put_eq d x st k

theorem eval_put_tmp {a : Act} {d : Nat} (v : Value) (t : Nat) (h : d < a.tmps.size) : (a.put (some d) v).eval (.tmp t) = if t = d then v else a.eval (.tmp t) := by
  simp only [Act.put, Act.eval, Array.getD_eq_getD_getElem?, Array.getElem?_setIfInBounds]
  by_cases e : t = d
  · subst e; simp [h]
  · rw [if_neg (Ne.symm e), if_neg e]

section
variable {P : Program} {K : Kon} {call : Nat → St → RS} {g : Gh} {st : St} {w : World} {o : Oper} {a : Act} {n : Nat}

theorem FR.opd (h : FR g st a n) (hk : K.In g) (y : Operand) : TR g st.R st.nR (rd st.T (cOp K y)) (a.eval y) := cOp_ok hk fun t e => by subst e; exact h.slot t

theorem FR.put (h : FR g st a n) {g' : Gh} {st' : St} {w' : World} {x : Nat} {v : Value} {ds' : List Deferred} (hp : SPost g st w g' st' w' x v a.defers ds') {d : Option Nat} (hd : ∀ i, d = some i → i < n) :
    FR g' (stPut st' d x) (({ a with defers := ds' } : Act).put d v) n := by
  have hs := h.size
  cases d with
  | none => exact ⟨hs, fun t => by show TR _ _ _ (gt st'.T t) (a.eval (.tmp t)); rw [hp.T]; exact (h.slot t).mono hp.fr.le hp.ext, hp.D⟩
  | some d =>
    have hd := hd d rfl
    refine ⟨by simpa [Act.put] using hs, fun t => ?_, hp.D⟩
    rw [eval_put_tmp _ _ (by show d < a.tmps.size; omega)]
    show TR g' st'.R st'.nR (gt (up1 st'.T d x) t) _
    rw [gt_up1 _ _ _ hp.tr.lt]
    split
    · exact hp.tr
    · rw [hp.T]; exact (h.slot t).mono hp.fr.le hp.ext

theorem stPut_hr {g' : Gh} {st' : St} {w' : World} (h : HR g' st' w') (d : Option Nat) (x : Nat) : HR g' (stPut st' d x) w' := by
  cases d with
  | none => exact h
  | some d => exact h.frame _ _ h.Rlt

/-! ### guards -/
theorem bool_slot (h : FR g st a n) {t : Nat} {b : Bool} (e : gt st.T t = if b then 17 else 1) : a.tmps[t]? = some (.bool b) := by
  have ht := h.slot t
  rw [e] at ht
  have hv : a.eval (.tmp t) = .bool b := by
    obtain ⟨c, e1, e2⟩ := (ht.cell_inv (by cases b <;> decide) (by cases b <;> decide) (by cases b <;> decide) (by cases b <;> decide)).bool_inv (by cases b <;> rfl)
    rw [e2]; cases b <;> cases c <;> first | rfl | (exact absurd e1 (by decide))
  simp only [Act.eval, Array.getD_eq_getD_getElem?] at hv
  cases hq : a.tmps[t]? with
  | none => rw [hq] at hv; cases b <;> cases hv
  | some v => rw [hq] at hv; rw [Option.getD_some] at hv; rw [hv]
theorem und_inv {g : Gh} {R nR x : Nat} {v : Value} (h : TR g R nR x v) (hx : x = 14) : v = undef := by
  cases h with
  | unk => omega
  | und => rfl
  | cell _ _ h => have := h.tag; omega
  | agg s n => exfalso; unfold eAgg at hx; omega
  | tup s n => exfalso; unfold eTup at hx; omega
theorem undef_slot (h : FR g st a n) {t : Nat} (e : gt st.T t = 14) (b : Bool) : a.tmps[t]? ≠ some (.bool b) := by
  have hv : a.eval (.tmp t) = undef := und_inv (h.slot t) e
  intro hq
  simp only [Act.eval, Array.getD_eq_getD_getElem?, hq, Option.getD_some] at hv
  cases hv

theorem guard_ok (h : FR g st a n) {ops : Array Oper} {q : Nat × Bool} {gn : Nat} {b : Bool} (hg : o.guard = some q) (hc : cGd ops q = some gn) (e : gd st.T gn = some b) : Region.wanted o (yielded ops a.tmps) = b := by
  obtain ⟨j, want⟩ := q
  unfold cGd at hc
  split at hc
  · rename_i s hs
    dsimp only at hs
    injection hc with hc
    dsimp only at hc
    have e1 : Nat.div gn 2 = s := by show gn / 2 = s; cases want <;> simp at hc <;> omega
    have e2 : Nat.mod gn 2 = if want then 1 else 0 := by show gn % 2 = _; cases want <;> simp at hc ⊢ <;> omega
    unfold gd at e
    rw [e1, e2] at e
    have hy : yielded ops a.tmps j = match a.tmps[s]? with | some (.bool c) => some c | _ => none := by
      unfold yielded; rw [hs]; rfl
    simp only [Region.wanted, hg, hy]
    cases h1 : Nat.beq (gt st.T s) 17 with
    | true =>
      rw [h1, sel_true] at e
      have h1 := beq_t h1
      rw [bool_slot h (b := true) (by simpa using h1)]
      injection e with e
      subst e
      cases want <;> rfl
    | false =>
      rw [h1, sel_false] at e
      cases h2 : Nat.beq (gt st.T s) 1 with
      | true =>
        rw [h2, sel_true] at e
        have h2 := beq_t h2
        rw [bool_slot h (b := false) (by simpa using h2)]
        injection e with e
        subst e
        cases want <;> rfl
      | false =>
        rw [h2, sel_false] at e
        cases h3 : Nat.beq (gt st.T s) 14 with
        | false => rw [h3, sel_false] at e; cases e
        | true =>
          rw [h3, sel_true] at e
          injection e with e
          subst e
          have hn := undef_slot h (beq_t h3)
          split
          · rename_i c hq; exact absurd hq (hn c)
          · cases want <;> rfl
  · cases hc

/-! ### a step -/
/-- What a step of a region is to the evaluator: guarded or not, and what it yields. -/
def StepE (call : Nat → St → RS) (P : Program) (K : Kon) (ops : Array Oper) (o : Oper) (st : St) (x : Nat) (st' : St) : Prop :=
  (o.guard = none ∧ runCO call (cO P K o) st = .ok x st') ∨
  ∃ q gn b, o.guard = some q ∧ cGd ops q = some gn ∧ gd st.T gn = some b ∧ if b then runCO call (cO P K o) st = .ok x st' else x = 14 ∧ st' = st

theorem cStp_cons {ops : Array Oper} {s : Stp} {l : List Stp} {y : Nat} {stF : St} (hs : cStp P K ops o = some s) (e : runS call (s :: l) st = .ok y stF) : ∃ x st', StepE call P K ops o st x st' ∧ runS call l (stPut st' o.dst x) = .ok y stF := by
  have run : ∀ d co, sRun call d co st (runS call l) = .ok y stF → ∃ x st', runCO call co st = .ok x st' ∧ runS call l (stPut st' d x) = .ok y stF := fun d co e => by
    unfold sRun at e
    cases hr : runCO call co st with
    | no => rw [hr] at e; cases e
    | ok x st' => rw [hr] at e; exact ⟨x, st', rfl, (put_st d x st' (runS call l)).symm.trans e⟩
  have mv : ∀ d x, cMv d x = some s → runS call l { st with T := up1 st.T d (rd st.T x) } = .ok y stF := fun d x h => by
    cases x with
    | s t => injection h with h; subst h; cases st; exact e
    | c w => injection h with h; subst h; cases st; exact e
  have rn : ∀ d co, cRun d co = some s → sRun call d co st (runS call l) = .ok y stF := fun d co h => by
    cases co with
    | op f =>
      cases d with
      | none => injection h with h; subst h; exact e
      | some d =>
        injection h with h
        subst h
        exact e
    | call f l => injection h with h; subst h; exact e
    | dyn x l => injection h with h; subst h; exact e
    | dfr x l => injection h with h; subst h; exact e
  unfold cStp at hs
  split at hs
  · rename_i hg
    split at hs
    · rename_i x d ho hd
      refine ⟨_, st, .inl ⟨hg, ?_⟩, by rw [hd]; exact mv d _ hs⟩
      have : cO P K o = .op (opMove (cOp K x)) := by simp [cO, cOper, ho]
      rw [this]; rfl
    · rename_i x d ho hd
      refine ⟨_, st, .inl ⟨hg, ?_⟩, by rw [hd]; exact mv d _ hs⟩
      have : cO P K o = .op (opMove (cOp K x)) := by simp [cO, cOper, ho]
      rw [this]; rfl
    · obtain ⟨x, st', h1, h2⟩ := run _ _ (rn _ _ hs)
      exact ⟨x, st', .inl ⟨hg, h1⟩, h2⟩
  · rename_i q hg
    split at hs
    · rename_i gn hgn
      injection hs with hs
      subst hs
      change sGrd call gn o.dst (cO P K o) st (runS call l) = .ok y stF at e
      unfold sGrd at e
      cases hb : gd st.T gn with
      | none => rw [hb] at e; cases e
      | some b =>
        rw [hb] at e
        cases b with
        | true =>
          obtain ⟨x, st', h1, h2⟩ := run _ _ e
          exact ⟨x, st', .inr ⟨q, gn, true, hg, hgn, hb, h1⟩, h2⟩
        | false =>
          change put o.dst 14 st (runS call l) = .ok y stF at e
          exact ⟨14, st, .inr ⟨q, gn, false, hg, hgn, hb, rfl, rfl⟩, (put_st o.dst 14 st (runS call l)).symm.trans e⟩
    · cases hs

/-- A step, and what the machine does at it. -/
theorem stepE_ok (hc : CallV P K call) (hk : K.In g) (hh : HR g st w) (hf : FR g st a n) {ops : Array Oper} {i : Nat} (ho : ops[i]? = some o) (hd : ∀ d, o.dst = some d → d < n) {x : Nat} {st' : St} (e : StepE call P K ops o st x st')
    {next : Act → World → Prop} {Q : Exit → Act → World → Prop}
    (hn : ∀ g' w' a', HR g' (stPut st' o.dst x) w' → Fr g w g' w' → FR g' (stPut st' o.dst x) a' n → Ext st.R st.nR (stPut st' o.dst x).R (stPut st' o.dst x).nR → next a' w') : wpOp P ops Q i next a w := by
  unfold wpOp
  simp only [ho]
  have hx : ∀ s : St, (stPut s o.dst x).R = s.R ∧ (stPut s o.dst x).nR = s.nR := fun s => by cases o.dst <;> exact ⟨rfl, rfl⟩
  have run : runCO call (cO P K o) st = .ok x st' → o.wp P a w next Q := fun e => step_ok hc hk hh (fun y _ => hf.opd hk y) hf.defers e fun g' w' v ds' hp =>
    hn g' w' _ (stPut_hr hp.hr _ _) hp.fr (hf.put hp hd) (by rw [(hx st').1, (hx st').2]; exact hp.ext)
  rcases e with ⟨hg, e⟩ | ⟨q, gn, b, hg, hgn, hb, e⟩
  · rw [if_pos (by simp [Region.wanted, hg])]
    exact .inl (run e)
  · rw [guard_ok hf hg hgn hb]
    cases b with
    | true => rw [if_pos rfl]; exact .inl (run e)
    | false =>
      rw [if_neg (by simp)]
      obtain ⟨rfl, rfl⟩ := e
      have hp : SPost g st' w g st' w 14 undef a.defers a.defers := ⟨hh, Fr.refl _ _, Ext.refl _ _, .und, rfl, hf.defers⟩
      exact hn g w (a.put o.dst undef) (stPut_hr hh _ _) (Fr.refl _ _) (hf.put hp hd) (by rw [(hx st').1, (hx st').2]; exact Ext.refl _ _)

end
end Ev
end Go.Proofs.YtgdibfnpkcdiiaaGreatDoor
