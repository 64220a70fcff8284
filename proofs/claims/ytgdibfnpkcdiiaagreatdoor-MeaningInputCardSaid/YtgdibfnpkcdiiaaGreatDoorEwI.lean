/- Results of functions, all of them. No condition. -/
import Derived.Test.YtgdibfnpkcdiiaaGreatDoorEwH
namespace Go.Proofs.YtgdibfnpkcdiiaaGreatDoor
namespace Ev

section
variable {P : Program} {K : Kon} {tmps : Array Value}

theorem getD_rev {α : Type} (l : List α) (d : α) {i : Nat} (h : i < l.length) : l.reverse.getD i d = l.getD (l.length - 1 - i) d := by
  rw [List.getD_eq_getElem?_getD, List.getD_eq_getElem?_getD, List.getElem?_reverse h]

theorem Post.trans {g : Gh} {st : St} {w : World} {g1 : Gh} {st1 : St} {w1 : World} {x1 : Nat} {v1 : Value} {g2 : Gh} {st2 : St} {w2 : World} {x : Nat} {v : Value} (h : Post g st w g1 st1 w1 x1 v1) (k : Post g1 st1 w1 g2 st2 w2 x v) : Post g st w g2 st2 w2 x v :=
  ⟨k.hr, h.fr.trans k.fr, h.ext.trans k.ext, k.tr, k.T.trans h.T, k.D.trans h.D⟩

theorem cRes_len : ∀ (l : List ResultVar) (rs : List RV), cRes P K l = some rs → rs.length = l.length
  | [], rs, h => by injection h with h; subst h; rfl
  | .tmp t :: l, rs, h => by
    simp only [cRes] at h
    cases hq : cRes P K l with
    | none => rw [hq] at h; cases h
    | some r =>
      rw [hq] at h
      simp only [Option.map_some, Option.some.injEq] at h
      subst h
      rw [List.length_cons, List.length_cons, cRes_len l r hq]
  | .cell a t :: l, rs, h => by
    simp only [cRes] at h
    split at h
    · rename_i d i r h1 h2 h3
      have := cRes_len l r h3
      split at h
      · injection h with h; subst h; simp [this]
      · split at h
        · injection h with h; subst h; simp [this]
        · cases h
    · cases h

theorem resL_ok : ∀ (l : List ResultVar) (rs : List RV) (g : Gh) (st : St) (w : World) (acc : List Nat) (av : List Value) (x : Nat) (st' : St), K.In g → HR g st w → (∀ t, TR g st.R st.nR (gt st.T t) (tmps.getD t undef)) → cRes P K l = some rs → av.length = acc.length →
    (∀ i, i < acc.length → TR g st.R st.nR (acc.getD i 0) (av.getD i undef)) → resL rs st acc = .ok x st' →
    ∃ g' w' vs, (l.mapM (resOne tmps)).run P w = .ok vs w' ∧ vs.length = l.length ∧ Post g st w g' st' w' x (.tuple (av.reverse ++ vs).toArray)
  | [], rs, g, st, w, acc, av, x, st', hk, hh, hs, hc, hl, hv, e => by
    injection hc with hc
    subst hc
    change sel (Nat.blt st.nR 4294967296) (sel (Nat.blt acc.length 16777216) (fc (ad st.R st.nR (rowN acc.reverse)) fun R => RS.ok (eTup st.nR acc.length) { st with R := R, nR := Nat.add st.nR acc.length }) RS.no) RS.no = RS.ok x st' at e
    obtain ⟨h1, e⟩ := sel_ok e
    obtain ⟨h2, e⟩ := sel_ok e
    rw [fc_eq] at e
    injection e with e1 e2
    have h1 := blt_t h1
    have h2 := blt_t h2
    simp only [nA] at e2
    have hlt : ∀ y ∈ acc.reverse, y < 2 ^ 128 := fun y hy => by
      obtain ⟨i, hi, he⟩ := List.getElem_of_mem (List.mem_reverse.1 hy)
      have := (hv i hi).lt
      rw [List.getD_eq_getElem?_getD, List.getElem?_eq_getElem hi, Option.getD_some, he] at this
      exact this
    have hcw : rowN acc.reverse < 2 ^ (128 * acc.length) := by have := rowN_lt acc.reverse hlt; rwa [List.length_reverse] at this
    have hext := Ext.ad acc.length (rowN acc.reverse) hh.Rlt
    subst e2
    refine ⟨g, w, [], by simp, rfl, ⟨hh.frame _ _ (ad_lt hh.Rlt hcw), Fr.refl _ _, hext, ?_, rfl, rfl⟩⟩
    rw [← e1]
    refine .tup _ _ _ h2 h1 (Nat.le_refl _) (by simp [hl]) fun i hi => ?_
    rw [gt_ad _ _ hh.Rlt, if_neg (by omega), show st.nR + i - st.nR = i by omega, gt_rowN _ _ hlt, getD_rev _ _ hi]
    have hz : (av.reverse ++ []).toArray.getD i undef = av.getD (acc.length - 1 - i) undef := by
      rw [List.append_nil, Array.getD_eq_getD_getElem?, List.getElem?_toArray, ← List.getD_eq_getElem?_getD, getD_rev _ _ (by omega), hl]
    rw [hz]
    exact (hv _ (by omega)).mono (Gh.le.refl g) hext
  | r :: l, rs, g, st, w, acc, av, x, st', hk, hh, hs, hc, hl, hv, e => by
    have hrs : ∃ rv rs', rs = rv :: rs' := by
      have := cRes_len _ _ hc
      cases rs with
      | nil => simp at this
      | cons a b => exact ⟨a, b, rfl⟩
    obtain ⟨rv, rs', rfl⟩ := hrs
    change RS.rec .no (fun w st => fc w fun w => resL rs' st (w :: acc)) (resV rv st) = RS.ok x st' at e
    cases hq : resV rv st with
    | no => rw [hq] at e; cases e
    | ok x1 st1 =>
      rw [hq] at e
      dsimp only at e
      rw [fc_eq] at e
      obtain ⟨hc', g1, w1, v, h1, h2⟩ := resV_ok hk hh hs hc hq
      obtain ⟨g', w', vs, k1, k2, k3⟩ := resL_ok l rs' g1 st1 w1 (x1 :: acc) (v :: av) x st' (hk.le h2.fr.le) h2.hr (fun t => by rw [h2.T]; exact (hs t).mono h2.fr.le h2.ext) hc' (by simp [hl]) (fun i hi => by
        cases i with
        | zero => exact h2.tr
        | succ i => exact (hv i (by simpa using hi)).mono h2.fr.le h2.ext) e
      refine ⟨g', w', v :: vs, by simp [List.mapM_cons, h1, k1], by simp [k2], ?_⟩
      have := h2.trans k3
      simpa using this

theorem mapM_world : ∀ (l : List ResultVar) (rs : List RV) {w w' : World} {vs : List Value}, cRes P K l = some rs → (l.mapM (resOne tmps)).run P w = .ok vs w' → w' = w
  | [], rs, w, w', vs, _, h => by
    simp at h; exact h.2.symm
  | r :: l, rs, w, w', vs, hc, h => by
    rw [List.mapM_cons, Sem.run_bind] at h
    cases hq : (resOne tmps r).run P w with
    | halt _ _ => rw [hq] at h; cases h
    | ok u w1 =>
      rw [hq] at h
      have := resOne_world hc hq
      subst this
      rw [Result.andThen_ok, Sem.run_bind] at h
      cases hz : (l.mapM (resOne tmps)).run P w1 with
      | halt _ _ => rw [hz] at h; cases h
      | ok us w2 =>
        rw [hz] at h
        have hcl : ∃ rs', cRes P K l = some rs' := by
          cases hl : cRes P K l with
          | some rs' => exact ⟨rs', rfl⟩
          | none =>
            cases r with
            | tmp t => simp [cRes, hl] at hc
            | cell a t =>
              simp only [cRes, hl] at hc
              split at hc
              · rename_i h3; cases h3
              · cases hc
        obtain ⟨rs', hcl⟩ := hcl
        have := mapM_world l rs' hcl hz
        subst this
        change Result.ok (u :: us) w2 = .ok vs w' at h
        injection h with _ h; exact h.symm
theorem results_world {fn : Func} {rs : List RV} {w w' : World} {v : Value} (hc : cRes P K fn.results.toList = some rs) (h : (results fn tmps).run P w = .ok v w') : w' = w := by
  have er : results fn tmps = (do
      let vs ← fn.results.mapM (resOne tmps)
      pure (if h : vs.size = 1 then vs[0] else .tuple vs)) := rfl
  rw [er, Array.mapM_eq_mapM_toList, Sem.run_bind, Sem.run_map] at h
  cases hz : (fn.results.toList.mapM (resOne tmps)).run P w with
  | halt _ _ => rw [hz] at h; cases h
  | ok us w2 =>
    rw [hz] at h
    have := mapM_world _ _ hc hz
    subst this
    simp at h
    exact h.2.symm

/-- A function's results. -/
theorem res_ok {fn : Func} {rs : List RV} {g : Gh} {st : St} {w : World} {x : Nat} {st' : St} (hk : K.In g) (hh : HR g st w) (hs : ∀ t, TR g st.R st.nR (gt st.T t) (tmps.getD t undef)) (hc : cRes P K fn.results.toList = some rs) (e : res rs st = .ok x st') :
    ∃ g' w' v, (results fn tmps).run P w = .ok v w' ∧ Post g st w g' st' w' x v := by
  have er : results fn tmps = (do
      let vs ← fn.results.mapM (resOne tmps)
      pure (if h : vs.size = 1 then vs[0] else .tuple vs)) := rfl
  rw [er, Array.mapM_eq_mapM_toList]
  generalize fn.results.toList = l at *
  match l, hc with
  | [], hc =>
    injection hc with hc
    subst hc
    change RS.ok 14 st = .ok x st' at e
    injection e with e1 e2
    subst e1; subst e2
    exact ⟨g, w, undef, by simp [undef], .same hh .und⟩
  | [r], hc =>
    have hrs : ∃ rv, rs = [rv] := by
      have := cRes_len _ _ hc
      match rs, this with
      | [a], _ => exact ⟨a, rfl⟩
    obtain ⟨rv, rfl⟩ := hrs
    obtain ⟨_, g', w', v, h1, h2⟩ := resV_ok hk hh hs hc e
    exact ⟨g', w', v, by simp [h1], h2⟩
  | r :: q :: l, hc =>
    have hrs : ∃ rv rq rs', rs = rv :: rq :: rs' := by
      have := cRes_len _ _ hc
      match rs, this with
      | a :: b :: c, _ => exact ⟨a, b, c, rfl⟩
    obtain ⟨rv, rq, rs', rfl⟩ := hrs
    obtain ⟨g', w', vs, k1, k2, k3⟩ := resL_ok (r :: q :: l) _ g st w [] [] x st' hk hh hs hc rfl (fun i hi => by simp at hi) e
    refine ⟨g', w', .tuple vs.toArray, ?_, by simpa using k3⟩
    have : ¬ vs.toArray.size = 1 := by simp at k2 ⊢; omega
    simp only [Sem.run_bind, Sem.run_map, k1]
    simp [k2]

end
end Ev
end Go.Proofs.YtgdibfnpkcdiiaaGreatDoor
