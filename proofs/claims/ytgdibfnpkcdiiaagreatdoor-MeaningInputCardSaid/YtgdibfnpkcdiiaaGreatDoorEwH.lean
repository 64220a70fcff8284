/- Results of functions. No condition. -/
import Derived.Test.YtgdibfnpkcdiiaaGreatDoorEwG
namespace Go.Proofs.YtgdibfnpkcdiiaaGreatDoor
namespace Ev

section
variable {P : Program} {K : Kon} {g : Gh} {st : St} {w : World} {n : Nat}

theorem mapM_run {α : Type} (f : α → Sem Value) (w : World) : ∀ (l : List α) (vs : List Value), vs.length = l.length → (∀ i (h : i < l.length), (f l[i]).run P w = .ok (vs.getD i undef) w) → (l.mapM f).run P w = .ok vs w
  | [], vs, hl, _ => by
    have : vs = [] := List.length_eq_zero_iff.1 hl
    subst this; simp
  | x :: l, [], hl, _ => by simp at hl
  | x :: l, v :: vs, hl, h => by
    have h0 := h 0 (by simp)
    have ih := mapM_run f w l vs (by simpa using hl) fun i hi => by have := h (i + 1) (by simpa using hi); simpa using this
    simp only [List.getElem_cons_zero, List.getD_cons_zero] at h0
    simp [List.mapM_cons, h0, ih]

theorem amapM_run {α : Type} (f : α → Sem Value) (w : World) (l : Array α) (vs : List Value) (hl : vs.length = l.size) (h : ∀ i (h : i < l.toList.length), (f l.toList[i]).run P w = .ok (vs.getD i undef) w) : (l.mapM f).run P w = .ok vs.toArray w := by
  rw [Array.mapM_eq_mapM_toList]
  have := mapM_run f w l.toList vs (by simpa using hl) h
  simp [this]

def resOne (tmps : Array Value) : ResultVar → Sem Value
  | .tmp t => pure (tmps.getD t undef)
  | .cell a t => do loadVar t (← asAddr (tmps.getD a undef))

theorem results_run {fn : Func} {tmps : Array Value} {vs : List Value} {w : World} (hl : vs.length = fn.results.size) (h : ∀ i (h : i < fn.results.toList.length), (resOne tmps fn.results.toList[i]).run P w = .ok (vs.getD i undef) w) :
    (results fn tmps).run P w = .ok (if h : vs.toArray.size = 1 then vs.toArray[0] else .tuple vs.toArray) w := by
  have e : results fn tmps = (do
      let vs ← fn.results.mapM (resOne tmps)
      pure (if h : vs.size = 1 then vs[0] else .tuple vs)) := rfl
  rw [e, Sem.run_bind, amapM_run (P := P) (resOne tmps) w fn.results vs hl h]
  simp [Sem.run_pure]

/-- A variable's value, read at the end. -/
theorem load_run {t : TypeId} {x : Nat} {st' : St} {tmps : Array Value} {c : Nat} (hk : K.In g) (hh : HR g st w) (hs : ∀ t, TR g st.R st.nR (gt st.T t) (tmps.getD t undef)) {f : St → RS} (e : f st = .ok x st')
    (hf : ∀ o : Oper, o.op = .load t (.tmp c) → OpV P K o f) : ∃ g' w' v, ((Instr.loadAt t (tmps.getD c undef)).run P w = .ok v w') ∧ Post g st w g' st' w' x v := by
  let o : Oper := { (default : Oper) with op := .load t (.tmp c) }
  obtain ⟨g', w', v, h1, h2, _⟩ := hf o rfl g st { tmps := tmps, defers := [] } w x st' hk hh (fun y hy => by
    have : y = .tmp c := by simpa [o, Op.operands] using hy
    subst this; exact hs c) e
  have hx : (execOp ({ tmps := tmps, defers := [] } : Act).eval o).run P w = ((Instr.loadAt t (tmps.getD c undef)).run P w).andThen fun v w => .ok (.value v) w := by
    show ((do let v ← Instr.loadAt t (tmps.getD c undef); pure (Next.value v)) : Sem Next).run P w = _
    rw [Sem.run_bind]; rfl
  rw [hx] at h1
  cases hq : (Instr.loadAt t (tmps.getD c undef)).run P w with
  | halt z w1 => rw [hq] at h1; rcases h1 with h1 | ⟨h1, _⟩ <;> cases h1
  | ok u w1 =>
    rw [hq] at h1
    rcases h1 with h1 | ⟨h1, _⟩
    · change Result.ok (Next.value u) w1 = _ at h1
      injection h1 with a1 a2
      injection a1 with a1
      subst a1; subst a2
      exact ⟨g', w1, u, rfl, h2⟩
    · cases h1

theorem loadAt_asAddr {t : TypeId} {ad v : Value} {w w' : World} (h : (Instr.loadAt t ad).run P w = .ok v w') : ((do loadVar t (← asAddr ad)) : Sem Value).run P w = .ok v w' := by
  unfold Instr.loadAt Instr.sureAddr at h
  unfold asAddr
  cases ad with
  | pointer q =>
    cases q with
    | some q => exact h
    | none => simp at h
  | _ => simp at h

theorem load_world {ad : Addr} {v : Value} {w w' : World} (h : (load ad).run P w = .ok v w') : w' = w := by
  rw [run_load] at h
  split at h
  · injection h with _ h; exact h.symm
  · split at h
    · injection h with _ h; exact h.symm
    · cases h
theorem loadCells_world {ad : Addr} : ∀ (n i : Nat) (acc : Array Value) {vs : Array Value} {w w' : World}, (loadCellsFrom ad i n acc).run P w = .ok vs w' → w' = w
  | 0, i, acc, vs, w, w', h => by
    change Result.ok acc w = .ok vs w' at h
    injection h with _ h; exact h.symm
  | n + 1, i, acc, vs, w, w', h => by
    unfold loadCellsFrom at h
    rw [Sem.run_bind] at h
    cases hq : (load (ad.add i)).run P w with
    | halt _ _ => rw [hq] at h; cases h
    | ok u w1 =>
      rw [hq] at h
      have := load_world hq
      subst this
      exact loadCells_world n (i + 1) _ h
theorem resOne_world {tmps : Array Value} {r : ResultVar} {v : Value} {w w' : World} {l : List ResultVar} {rs : List RV} (hc : cRes P K (r :: l) = some rs) (h : (resOne tmps r).run P w = .ok v w') : w' = w := by
  cases r with
  | tmp t =>
    change Result.ok (tmps.getD t undef) w = .ok v w' at h
    injection h with _ h; exact h.symm
  | cell a t =>
    simp only [cRes] at hc
    split at hc
    · rename_i d i r' hd hi hr'
      unfold resOne at h
      rw [Sem.run_bind] at h
      cases hq : (asAddr (tmps.getD a undef)).run P w with
      | halt _ _ => rw [hq] at h; cases h
      | ok ad w1 =>
        rw [hq] at h
        have hw1 : w1 = w := by
          unfold asAddr at hq
          split at hq
          · change Result.ok _ w = .ok ad w1 at hq
            injection hq with _ hq; exact hq.symm
          · first | cases hq | simp [runtimePanic] at hq
          · first | cases hq | simp [stuck] at hq
        subst hw1
        change (loadVar t ad).run P w1 = .ok v w' at h
        unfold loadVar at h
        rw [Sem.run_bind, run_aggB hd] at h
        cases ha : aggB d with
        | true =>
          rw [ha] at h
          simp only [Result.andThen_ok, if_true, Sem.run_bind, run_siz hi] at h
          cases hz : (loadCells ad i.size).run P w1 with
          | halt _ _ => rw [hz] at h; cases h
          | ok u w2 =>
            rw [hz] at h
            have := loadCells_world _ _ _ hz
            subst this
            change Result.ok (Value.agg u) w2 = .ok v w' at h
            injection h with _ h; exact h.symm
        | false =>
          rw [ha] at h
          exact load_world h
    · cases hc

/-- One result. -/
theorem resV_ok {tmps : Array Value} (hk : K.In g) (hh : HR g st w) (hs : ∀ t, TR g st.R st.nR (gt st.T t) (tmps.getD t undef)) {r : ResultVar} {rv : RV} {l : List ResultVar} {rs : List RV} (hc : cRes P K (r :: l) = some (rv :: rs)) {x : Nat} {st' : St} (e : resV rv st = .ok x st') :
    cRes P K l = some rs ∧ ∃ g' w' v, (resOne tmps r).run P w = .ok v w' ∧ Post g st w g' st' w' x v := by
  cases r with
  | tmp t =>
    simp only [cRes] at hc
    cases hq : cRes P K l with
    | none => rw [hq] at hc; cases hc
    | some rs' =>
      rw [hq] at hc
      simp only [Option.map_some, Option.some.injEq, List.cons.injEq] at hc
      obtain ⟨rfl, rfl⟩ := hc
      change RS.ok (gt st.T t) st = .ok x st' at e
      injection e with e1 e2
      subst e1; subst e2
      exact ⟨rfl, g, w, tmps.getD t undef, rfl, .same hh (hs t)⟩
  | cell a t =>
    simp only [cRes] at hc
    split at hc
    · rename_i d i r' hd hi hr'
      split at hc
      · rename_i ha
        simp only [Option.some.injEq, List.cons.injEq] at hc
        obtain ⟨rfl, rfl⟩ := hc
        obtain ⟨g', w', v, h1, h2⟩ := load_run (P := P) (K := K) (c := a) (t := t) (f := opLd (.s a)) hk hh hs e fun o ho => opLd_ok ho hd ha
        exact ⟨hr', g', w', v, loadAt_asAddr h1, h2⟩
      · rename_i ha
        split at hc
        · rename_i hn
          simp only [Option.some.injEq, List.cons.injEq] at hc
          obtain ⟨rfl, rfl⟩ := hc
          obtain ⟨g', w', v, h1, h2⟩ := load_run (P := P) (K := K) (c := a) (t := t) (f := opLdA i.size (.s a)) hk hh hs e fun o ho => opLdA_ok ho hd (nagg ha) hi hn
          exact ⟨hr', g', w', v, loadAt_asAddr h1, h2⟩
        · cases hc
    · cases hc

end
end Ev
end Go.Proofs.YtgdibfnpkcdiiaaGreatDoor
