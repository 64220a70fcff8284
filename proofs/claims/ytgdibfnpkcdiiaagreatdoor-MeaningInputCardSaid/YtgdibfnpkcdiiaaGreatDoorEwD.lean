/- Regions that draw their order: what floats, and what is told anew. No condition. -/
import Derived.Test.YtgdibfnpkcdiiaaGreatDoorEwC
namespace Go.Proofs.YtgdibfnpkcdiiaaGreatDoor
namespace Ev

section
variable {P : Program} {K : Kon} {call : Nat → St → RS} {g : Gh} {st : St} {w : World} {o : Oper} {a b : Act} {n : Nat} {ops : Array Oper}

theorem oiAt_eq {i : Nat} (h : ops[i]? = some o) : oiAt (ops.toList.map (oiOf P ops)) i = oiOf P ops o := by
  unfold oiAt
  rw [List.getD_eq_getElem?_getD, List.getElem?_map, Array.getElem?_toList, h]
  rfl

theorem pre_mem {j : Nat} : j ∈ (oiOf P ops o).pre ↔ ∃ e ∈ o.after, Region.binds .any e = true ∧ e.on = j := by
  simp only [oiOf, List.mem_map, List.mem_filter, Array.mem_toList_iff]
  constructor
  · rintro ⟨e, ⟨h1, h2⟩, h3⟩; exact ⟨e, h1, h2, h3⟩
  · rintro ⟨e, h1, h2, h3⟩; exact ⟨e, ⟨h1, h2⟩, h3⟩

theorem lk_opd {t : Nat} (h : Operand.tmp t ∈ o.op.operands) : t ∈ o.looksAt ops := by
  unfold Oper.looksAt
  refine List.mem_append.2 (.inl (List.mem_filterMap.2 ⟨.tmp t, by simpa using h, rfl⟩))
theorem lk_grd {q : Nat × Bool} {s : Nat} (h : o.guard = some q) (hs : (ops[q.1]?).bind (·.dst) = some s) : s ∈ o.looksAt ops := by
  unfold Oper.looksAt
  refine List.mem_append.2 (.inr ?_)
  obtain ⟨j, wnt⟩ := q
  rw [h]
  dsimp only at hs ⊢
  rw [hs]; simp

theorem oiq {i : Nat} (h : ops[i]? = some o) (hq : (oiAt (ops.toList.map (oiOf P ops)) i).q = true) : quietB P o.op = true ∧ ∃ d, o.dst = some d := by
  rw [oiAt_eq h] at hq
  simp only [oiOf, Bool.and_eq_true] at hq
  obtain ⟨⟨h1, _⟩, h2⟩ := hq
  exact ⟨h1, Option.isSome_iff_exists.1 h2⟩

/-! ### guards, of a frame that is known at a slot alone -/
theorem guard_at {ops : Array Oper} {q : Nat × Bool} {gn : Nat} {c : Bool} (hg : o.guard = some q) (hc : cGd ops q = some gn) (e : gd st.T gn = some c)
    (hs : ∀ s, (ops[q.1]?).bind (·.dst) = some s → TR g st.R st.nR (gt st.T s) (a.eval (.tmp s))) : Region.wanted o (yielded ops a.tmps) = c := by
  obtain ⟨s, h1⟩ : ∃ s, (ops[q.1]?).bind (·.dst) = some s := by
    obtain ⟨j, wnt⟩ := q
    unfold cGd at hc
    split at hc
    · rename_i s h; exact ⟨s, h⟩
    · cases hc
  -- a frame that is known at that slot alone, the others unknown
  have hsl := hs s h1
  let T' := up1 0 s (gt st.T s)
  have hT' : ∀ t, gt T' t = if t = s then gt st.T s else 0 := fun t => by
    show gt (up1 0 s (gt st.T s)) t = _
    rw [gt_up1 _ _ _ (gt_lt _ _), gt_zero]
  have hfr : FR g { st with T := T', D := [] } { a with defers := [] } 0 := by
    refine ⟨Nat.zero_le _, fun t => ?_, .nil⟩
    show TR g st.R st.nR (gt T' t) (a.eval (.tmp t))
    rw [hT' t]
    split
    · rename_i e; subst e; exact hsl
    · exact .unk _
  refine guard_ok (a := { a with defers := [] }) hfr hg hc ?_
  obtain ⟨j, wnt⟩ := q
  unfold cGd at hc
  rw [h1] at hc
  injection hc with hc
  have e1 : Nat.div gn 2 = s := by show gn / 2 = s; cases wnt <;> simp at hc <;> omega
  unfold gd at e ⊢
  rw [e1] at e ⊢
  show sel (Nat.beq (gt T' s) 17) _ (sel (Nat.beq (gt T' s) 1) _ (sel (Nat.beq (gt T' s) 14) _ _)) = _
  rw [hT' s, if_pos rfl]
  exact e

/-- A step, of a frame that is known at what the step looks at. -/
theorem stepE_at (hc : CallV P K call) (hk : K.In g) (hh : HR g st w) {i : Nat} (ho : ops[i]? = some o) (hl : ∀ t ∈ o.looksAt ops, TR g st.R st.nR (gt st.T t) (a.eval (.tmp t))) (hd : DR g st.R st.nR st.D a.defers) {x : Nat} {st' : St}
    (e : StepE call P K ops o st x st') {next : Act → World → Prop} {Q : Exit → Act → World → Prop}
    (hn : ∀ g' w' v ds', SPost g st w g' st' w' x v a.defers ds' → next (({ a with defers := ds' } : Act).put o.dst v) w') : wpOp P ops Q i next a w := by
  have hy : ∀ y ∈ o.op.operands, TR g st.R st.nR (rd st.T (cOp K y)) (a.eval y) := fun y hm => cOp_ok hk fun t ht => by subst ht; exact hl t (lk_opd hm)
  unfold wpOp
  simp only [ho]
  rcases e with ⟨hg, e⟩ | ⟨q, gn, c, hg, hgn, hb, e⟩
  · rw [if_pos (by simp [Region.wanted, hg])]
    exact .inl (step_ok hc hk hh hy hd e hn)
  · rw [guard_at hg hgn hb (fun s h => hl s (lk_grd hg h))]
    cases c with
    | true => rw [if_pos rfl]; exact .inl (step_ok hc hk hh hy hd e hn)
    | false =>
      rw [if_neg (by simp)]
      obtain ⟨rfl, rfl⟩ := e
      exact hn g w undef a.defers ⟨hh, Fr.refl _ _, Ext.refl _ _, .und, rfl, hd⟩

/-- A quiet step, the same way: what it yields. -/
theorem stepE_quiet (hk : K.In g) (hh : HR g st w) {i : Nat} (ho : ops[i]? = some o) (hq : quietB P o.op = true) (hl : ∀ t ∈ o.looksAt ops, TR g st.R st.nR (gt st.T t) (a.eval (.tmp t))) {x : Nat} {st' : St} (e : StepE call P K ops o st x st') :
    ∃ g' w' v, Harm w w' ∧ HR g' st' w' ∧ HR g' st' w ∧ Fr g w g' w ∧ Ext st.R st.nR st'.R st'.nR ∧ TR g' st'.R st'.nR x v ∧ st'.T = st.T ∧ st'.D = st.D ∧
      ∀ (next : Act → World → Prop) (Q : Exit → Act → World → Prop), next (a.put o.dst v) w' → wpOp P ops Q i next a w := by
  have hy : ∀ y ∈ o.op.operands, TR g st.R st.nR (rd st.T (cOp K y)) (a.eval y) := fun y hm => cOp_ok hk fun t ht => by subst ht; exact hl t (lk_opd hm)
  have run : ∀ (hw : Region.wanted o (yielded ops a.tmps) = true), runCO call (cO P K o) st = .ok x st' → ∃ g' w' v, Harm w w' ∧ HR g' st' w' ∧ HR g' st' w ∧ Fr g w g' w ∧ Ext st.R st.nR st'.R st'.nR ∧ TR g' st'.R st'.nR x v ∧ st'.T = st.T ∧ st'.D = st.D ∧
      ∀ (next : Act → World → Prop) (Q : Exit → Act → World → Prop), next (a.put o.dst v) w' → wpOp P ops Q i next a w := fun hw e => by
    obtain ⟨g', w', v, h1, h2, h3, h4, h5⟩ := quiet_ok hk hh hy hq e
    refine ⟨g', w', v, h5, h2.hr, h3, h4, h2.ext, h2.tr, h2.T, h2.D, fun next Q hn => ?_⟩
    unfold wpOp
    simp only [ho]
    rw [if_pos hw]
    refine .inl ?_
    unfold Oper.wp
    rcases h1 with h1 | ⟨h1, rfl⟩
    · rw [h1, Oper.upon_value]; exact hn
    · rw [h1, Oper.upon_skip]; exact hn
  rcases e with ⟨hg, e⟩ | ⟨q, gn, c, hg, hgn, hb, e⟩
  · exact run (by simp [Region.wanted, hg]) e
  · have hw := guard_at (a := a) hg hgn hb (fun s h => hl s (lk_grd hg h))
    cases c with
    | true => exact run hw e
    | false =>
      obtain ⟨rfl, rfl⟩ := e
      refine ⟨g, w, undef, Harm.refl w, hh, hh, Fr.refl _ _, Ext.refl _ _, .und, rfl, rfl, fun next Q hn => ?_⟩
      unfold wpOp
      simp only [ho]
      rw [if_neg (by rw [hw]; simp)]
      exact hn

/-- What is told anew. -/
def Ck (call : Nat → St → RS) (P : Program) (K : Kon) (ops : Array Oper) (st : St) (i : Nat) : Prop :=
  ∃ o d x st1, ops[i]? = some o ∧ o.dst = some d ∧ StepE call P K ops o st x st1 ∧ sameW st1 x (gt st.T d) = true

/-- What floats is reckoned in a frame of its own. -/
theorem floats_ok : ∀ (fl : List Nat) (tail : List Itm) (g : Gh) (st : St) (b : Act) (l : List Stp) (y : Nat) (stF : St), K.In g → HR g st w → FR g st b n → (∀ i ∈ fl, ∃ o, ops[i]? = some o ∧ quietB P o.op = true ∧ ltO n o.dst = true) →
    cItms P K ops (fl.map .run ++ tail) = some l → runS call l st = .ok y stF →
    ∃ g' st' b' l', HR g' st' w ∧ Fr g w g' w ∧ FR g' st' b' n ∧ Ext st.R st.nR st'.R st'.nR ∧ b'.tmps.size = b.tmps.size ∧ b'.defers = b.defers ∧
      (∀ t, (∀ i ∈ fl, ∀ o, ops[i]? = some o → o.dst ≠ some t) → b'.eval (.tmp t) = b.eval (.tmp t)) ∧ cItms P K ops tail = some l' ∧ runS call l' st' = .ok y stF
  | [], tail, g, st, b, l, y, stF, _, hh, hf, _, hl, hr => ⟨g, st, b, l, hh, Fr.refl _ _, hf, Ext.refl _ _, rfl, rfl, fun _ _ => rfl, hl, hr⟩
  | i :: fl, tail, g, st, b, l, y, stF, hk, hh, hf, hfl, hl, hr => by
    obtain ⟨o, ho, hq, hlt⟩ := hfl i (by simp)
    rw [List.map_cons, List.cons_append, cItms] at hl
    split at hl
    · rename_i s r hs hrr
      injection hl with hl
      subst hl
      simp only [cItm, ho] at hs
      obtain ⟨x, st', e1, e2⟩ := cStp_cons hs hr
      obtain ⟨g1, w1, v, h1, h2, h3, h4, h5, h6, h7, h8, _⟩ := stepE_quiet (call := call) (a := b) hk hh ho hq (fun t _ => hf.slot t) e1
      have hdn : ∀ d, o.dst = some d → d < n := fun d hd => by rw [hd] at hlt; exact blt_t hlt
      have hp : SPost g st w g1 st' w x v b.defers b.defers := ⟨h3, h4, h5, h6, h7, by rw [h8]; exact hf.defers.mono h4.le h5⟩
      have hf1 := hf.put hp hdn
      have hbs : ((({ b with defers := b.defers } : Act).put o.dst v)).tmps.size = b.tmps.size := by cases o.dst <;> simp [Act.put]
      have hbd : ((({ b with defers := b.defers } : Act).put o.dst v)).defers = b.defers := by cases o.dst <;> rfl
      have hbx : (stPut st' o.dst x).R = st'.R ∧ (stPut st' o.dst x).nR = st'.nR := by cases o.dst <;> exact ⟨rfl, rfl⟩
      obtain ⟨g', s', b', l', k1, k2, k3, k4, k5, k6, k7, k8, k9⟩ := floats_ok fl tail g1 (stPut st' o.dst x) _ r y stF (hk.le h4.le) (stPut_hr h3 _ _) hf1 (fun j hj => hfl j (by simp [hj])) hrr e2
      refine ⟨g', s', b', l', k1, h4.trans k2, k3, h5.trans (by rw [hbx.1, hbx.2] at k4; exact k4), k5.trans hbs, k6.trans hbd, fun t ht => ?_, k8, k9⟩
      rw [k7 t (fun j hj => ht j (by simp [hj]))]
      have hne := ht i (by simp) o ho
      cases hd : o.dst with
      | none => rfl
      | some d =>
        rw [hd] at hne
        have hds := hdn d hd
        have := hf.size
        have hlt2 : d < ({ b with defers := b.defers } : Act).tmps.size := Nat.lt_of_lt_of_le hds this
        rw [eval_put_tmp v t hlt2, if_neg (fun e => hne (by rw [e]))]
    · cases hl

theorem chks_ok : ∀ (ck : List Nat) (tail : List Itm) (l : List Stp) (y : Nat) (stF : St), cItms P K ops (ck.map .chk ++ tail) = some l → runS call l st = .ok y stF →
    (∀ i ∈ ck, Ck call P K ops st i) ∧ ∃ l', cItms P K ops tail = some l' ∧ runS call l' st = .ok y stF
  | [], tail, l, y, stF, hl, hr => ⟨fun i hi => by simp at hi, l, hl, hr⟩
  | i :: ck, tail, l, y, stF, hl, hr => by
    rw [List.map_cons, List.cons_append, cItms] at hl
    split at hl
    · rename_i s r hs hrr
      injection hl with hl
      subst hl
      have one : ∀ d co, sChk1 call d co st (runS call r) = .ok y stF → ∃ x s1, runCO call co st = .ok x s1 ∧ sameW s1 x (gt st.T d) = true ∧ runS call r st = .ok y stF := fun d co e => by
        unfold sChk1 at e
        cases hq : runCO call co st with
        | no => rw [hq] at e; cases e
        | ok x s1 =>
          rw [hq] at e
          obtain ⟨e1, e2⟩ := sel_ok e
          exact ⟨x, s1, rfl, e1, e2⟩
      have key : Ck call P K ops st i ∧ runS call r st = .ok y stF := by
        unfold cItm at hs
        split at hs
        · cases ‹Itm.chk i = Itm.run _›
        · rename_i j hj
          injection hj with hj
          subst hj
          split at hs
          · rename_i o ho
            split at hs
            · rename_i d hd hg
              injection hs with hs
              subst hs
              obtain ⟨x, s1, e1, e2, e3⟩ := one _ _ hr
              exact ⟨⟨o, d, x, s1, ho, hd, .inl ⟨hg, e1⟩, e2⟩, e3⟩
            · rename_i d q hd hg
              split at hs
              · rename_i gn hgn
                injection hs with hs
                subst hs
                change Option.rec .no (fun c => sel c (sChk1 call d (cO P K o) st (runS call r)) (sel (Nat.beq 14 (gt st.T d)) (runS call r st) .no)) (gd st.T gn) = RS.ok y stF at hr
                cases hb : gd st.T gn with
                | none => rw [hb] at hr; cases hr
                | some c =>
                  rw [hb] at hr
                  cases c with
                  | true =>
                    obtain ⟨x, s1, e1, e2, e3⟩ := one _ _ hr
                    exact ⟨⟨o, d, x, s1, ho, hd, .inr ⟨q, gn, true, hg, hgn, hb, e1⟩, e2⟩, e3⟩
                  | false =>
                    obtain ⟨e1, e2⟩ := sel_ok (b := Nat.beq 14 (gt st.T d)) hr
                    refine ⟨⟨o, d, 14, st, ho, hd, .inr ⟨q, gn, false, hg, hgn, hb, rfl, rfl⟩, ?_⟩, e2⟩
                    unfold sameW; rw [e1]; rfl
              · cases hs
            · cases hs
          · cases hs
      obtain ⟨k1, k2⟩ := chks_ok ck tail r y stF hrr key.2
      exact ⟨fun j hj => by
        rcases List.mem_cons.1 hj with rfl | hj
        · exact key.1
        · exact k1 j hj, k2⟩
    · cases hl

end
end Ev
end Go.Proofs.YtgdibfnpkcdiiaaGreatDoor
