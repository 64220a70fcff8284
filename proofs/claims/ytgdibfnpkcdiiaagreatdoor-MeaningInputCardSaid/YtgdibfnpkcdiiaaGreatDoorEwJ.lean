/- Functions: the evaluator is right. No condition. -/
import Derived.Test.YtgdibfnpkcdiiaaGreatDoorEwI
import Derived.Recover
namespace Go.Proofs.YtgdibfnpkcdiiaaGreatDoor
namespace Ev

/-- A hook is right. -/
def HookV (P : Program) (K : Kon) (f : Nat) (h : St → RS) : Prop :=
  ∀ (g : Gh) (st : St) (w : World) (args : Array Value) (x : Nat) (st' : St), K.In g → HR g st w → st.D = [(args.size, [])] → (∀ i, TR g st.R st.nR (gt st.T i) (args.getD i undef)) → (∀ i, args.size ≤ i → gt st.T i = 0) → h st = .ok x st' →
    CallR P f args w fun v w' => ∃ g', CPost g st w g' st' w' x v
/-- A deferred call that does nothing when its function returns. -/
def DkV (P : Program) (dk : Nat → Bool) : Prop :=
  ∀ (g : Gh) (R nR : Nat) (q : Nat × List Nat) (d : Deferred) (w : World), DefR g R nR q d → dk q.1 = true → q.2 = [] →
    ∃ fv cap f args, d.target = .fn fv cap ∧ (invoke d.target d.args).run P w = .ok (.enter f args) w ∧ CallsD P f args .returning w fun e u' w' => ∃ v, e = .returned v ∧ u' = .returning ∧ Harm w w'

section
variable {P : Program} {K : Kon} {X : Nat → Nat → Option Plan} {hk : Nat → Option (St → RS)} {dk : Nat → Bool} {fuel : Nat}

/-- What runs when a function is left. -/
theorem leaves_ok (hd : DkV P dk) {call : Nat → St → RS} (hc : CallG (CallDR P) K call) {fn : Func} {tmps : Array Value} {R : Ending → World → Prop} {x : Nat} {stF : St} : ∀ (l : List (Nat × List Nat)) (ds : List Deferred) (g : Gh) (st : St) (w : World),
    K.In g → HR g st w → DR g st.R st.nR l ds → runD call dk l st = .ok x stF →
    (∀ g' w', K.In g' → HR g' stF w' → Fr g w g' w' → Ext st.R st.nR stF.R stF.nR → stF.T = st.T → ∃ v, (results fn tmps).run P w' = .ok v w' ∧ R (.returned v) w') → Leaves P fn tmps R ds .returning w
  | [], ds, g, st, w, hk, hh, hdr, e, hR => by
    cases hdr
    change RS.ok 0 st = .ok x stF at e
    injection e with _ e
    subst e
    exact hR g w hk hh (Fr.refl _ _) (Ext.refl _ _) rfl
  | (fw, ws) :: l, ds, g, st, w, hk, hh, hdr, e, hR => by
    cases hdr with
    | @cons _ d _ ds' hq hdr =>
      have e : sel (dk fw) (sel (Nat.beq ws.length 0) (runD call dk l st) RS.no) (RS.rec .no (fun _ st => runD call dk l st) (dyn call fw ws st)) = RS.ok x stF := e
      cases hdk : dk fw with
      | true =>
        rw [hdk, sel_true] at e
        obtain ⟨h0, e⟩ := sel_ok e
        obtain ⟨fv, cap, f, args, h1, h2, h3⟩ := hd g st.R st.nR (fw, ws) d w hq hdk (List.length_eq_zero_iff.1 (beq_t h0))
        refine ⟨by simp, fv, cap, f, args, h1, h2, h3.mono fun e u' w' ⟨v, e1, e2, e3⟩ => ?_⟩
        subst e1; subst e2
        show Leaves P fn tmps R ds' .returning w'
        obtain ⟨a1, a2⟩ := e3 g st hh
        exact leaves_ok hd hc l ds' g st w' hk a1 hdr e fun g' w2 k1 k2 k3 k4 k5 => hR g' w2 k1 k2 (a2.trans k3) k4 k5
      | false =>
        rw [hdk, sel_false] at e
        cases hdy : dyn call fw ws st with
        | no => rw [hdy] at e; cases e
        | ok x1 st1 =>
          rw [hdy] at e
          obtain ⟨fv, first, cap, vs, h1, h2, h3, h4, h5, h6⟩ := hq
          obtain ⟨f, first', cap', ev, hq1, hq2⟩ := dyn_okG (callDR_mono P) hc hk hh h1 h4 h5 h6 hdy
          injection ev with g1 g2 g3
          subst g1; subst g2; subst g3
          refine ⟨by simp, .func f, cap, f, first ++ vs ++ cap, by rw [h3], ?_, hq2.mono fun e u' w' ⟨v, e1, e2, g', hp⟩ => ?_⟩
          · rw [h3]; exact hq1
          · subst e1; subst e2
            show Leaves P fn tmps R ds' .returning w'
            exact leaves_ok hd hc l ds' g' st1 w' (hk.le hp.fr.le) hp.hr (hdr.mono hp.fr.le hp.ext) e fun g2 w2 k1 k2 k3 k4 k5 => hR g2 w2 k1 k2 (hp.fr.trans k3) (hp.ext.trans k4) (k5.trans hp.T)

theorem frame0 {g : Gh} {st : St} {args : Array Value} {m : Nat} (hs : ∀ i, TR g st.R st.nR (gt st.T i) (args.getD i undef)) (h0 : ∀ i, args.size ≤ i → gt st.T i = 0) : FR g { st with D := [] } { tmps := args ++ Array.replicate (m - args.size) undef, defers := [] } m := by
  refine ⟨by simp; omega, fun t => ?_, .nil⟩
  by_cases ht : t < args.size
  · have : ({ tmps := args ++ Array.replicate (m - args.size) undef, defers := [] } : Act).eval (.tmp t) = args.getD t undef := by
      simp [Act.eval, Array.getD_eq_getD_getElem?, Array.getElem?_append, ht]
    rw [this]; exact hs t
  · rw [h0 t (by omega)]; exact .unk _

theorem dr_nil {g : Gh} {R nR : Nat} {ds : List Deferred} (h : DR g R nR [] ds) : ds = [] := by cases h; rfl

theorem cFun_some {f : Nat} {F : Fun} (h : cFun P K X f = some F) : ∃ fn c rs, P.funcs[f]? = some fn ∧ fn.body = some c ∧ cRes P K fn.results.toList = some rs ∧ fn.name ≠ "runtime.NumGoroutine" ∧ F = ⟨cCode P K (X f) fn.ntmps c, rs⟩ := by
  unfold cFun at h
  split at h
  · rename_i fn hfn
    split at h
    · rename_i c rs hb hrs
      split at h
      · cases h
      · rename_i hname
        injection h with h
        exact ⟨fn, c, rs, hfn, hb, hrs, by simpa using hname, h.symm⟩
    · cases h
  · cases h

theorem evalD_ok (hX : ∀ f fn c, P.funcs[f]? = some fn → fn.body = some c → okX P K (X f) fn.ntmps c = true) (hm : P.follows .mixedOrders = true) {call : Nat → St → RS} (ih : CallV P K call) : CallG (CallDR P) K (evalD P K X call fuel) := fun f g st w args x st' hkn hh hD hs h0 e => by
  unfold evalD at e
  cases hF : cFun P K X f with
  | none => rw [hF] at e; cases e
  | some F =>
    rw [hF] at e
    obtain ⟨fn, c, rs, hfn, hb, hrs, hname, rfl⟩ := cFun_some hF
    change RS.rec .no (fun x st => sel (Nat.ble x 1) (List.rec (res rs st) (fun _ _ _ => .no) st.D) .no) (evalM call fuel (cCode P K (X f) fn.ntmps c) { st with D := [] }) = RS.ok x st' at e
    have hh0 : HR g { st with D := [] } w := hh.frame _ _ hh.Rlt
    cases hq : evalM call fuel (cCode P K (X f) fn.ntmps c) { st with D := [] } with
    | no => rw [hq] at e; cases e
    | ok x1 st1 =>
      rw [hq] at e
      dsimp only at e
      obtain ⟨h1, e⟩ := sel_ok e
      have h1 := ble_t h1
      refine ⟨by simp [callFunc, hfn, hname, hb], callsD_of_wpS hfn hb fun c₀ cs hu => wpS_of_wp ?_⟩
      refine (codes_ok (n := fn.ntmps) hm ih fuel).1 c g { st with D := [] } w _ x1 st1 _ (hX f fn c hfn hb) hkn hh0 (frame0 hs h0) hq fun w' a' hA => ?_
      obtain ⟨g', e1, e2, e3, e4, e5⟩ := hA
      have hdef := e5.defers
      cases hDD : st1.D with
      | cons q l => rw [hDD] at e; cases e
      | nil =>
        rw [hDD] at e hdef
        have hnil : a'.defers = [] := dr_nil hdef
        obtain ⟨g2, w3, v, u1, u2⟩ := res_ok (tmps := a'.tmps) (K := K) (fn := fn) e1 e2 (fun t => e5.slot t) hrs e
        have := results_world hrs u1
        subst this
        have hc0 : c₀ :: cs = { c₀ with mode := FrameMode.returning } :: cs := by rw [← hu]
        have fin : a'.defers = [] ∧ ∃ u', c₀ :: cs = { c₀ with mode := u' } :: cs ∧ ∃ v, (results fn a'.tmps).run P w3 = .ok v w3 ∧ ∃ v', Ending.returned v = .returned v' ∧ u' = .returning ∧ ∃ g', CPost g st w g' st' w3 x v' :=
          ⟨hnil, _, hc0, v, u1, v, rfl, rfl, g2, ⟨u2.hr, e3.trans u2.fr, e4.trans u2.ext, u2.tr⟩⟩
        match x1, h1 with
        | 0, _ => exact fin
        | 1, _ => exact fin

theorem evalF_ok (hX : ∀ f fn c, P.funcs[f]? = some fn → fn.body = some c → okX P K (X f) fn.ntmps c = true) (hm : P.follows .mixedOrders = true) (hH : ∀ f h, hk f = some h → HookV P K f h) (hd : DkV P dk) : ∀ n, CallV P K (evalF P K X hk dk fuel n)
  | 0 => fun _ _ _ _ _ _ _ _ _ _ _ _ e => nomatch e
  | n + 1 => fun f g st w args x st' hkn hh hD hs h0 e => by
    have ih := evalF_ok hX hm hH hd n
    cases hf : hk f with
    | some h =>
      change Option.rec _ (fun h => h st) (hk f) = RS.ok x st' at e
      rw [hf] at e
      exact hH f h hf g st w args x st' hkn hh hD hs h0 e
    | none =>
      change Option.rec (Option.rec .no (fun F => Fun.rec (fun code rs => RS.rec .no (fun x st => sel (Nat.ble x 1) (RS.rec .no (fun _ st => res rs st) (runD (evalD P K X (evalF P K X hk dk fuel n) fuel) dk st.D (setD [] st))) .no)
        (noD (evalM (evalF P K X hk dk fuel n) fuel code) st)) F) (cFun P K X f)) (fun h => h st) (hk f) = RS.ok x st' at e
      rw [hf] at e
      cases hF : cFun P K X f with
      | none => rw [hF] at e; cases e
      | some F =>
        rw [hF] at e
        obtain ⟨fn, c, rs, hfn, hb, hrs, hname, rfl⟩ := cFun_some hF
        change RS.rec .no (fun x st => sel (Nat.ble x 1) (RS.rec .no (fun _ st => res rs st) (runD (evalD P K X (evalF P K X hk dk fuel n) fuel) dk st.D (setD [] st))) .no)
          (evalM (evalF P K X hk dk fuel n) fuel (cCode P K (X f) fn.ntmps c) { st with D := [] }) = RS.ok x st' at e
        have hh0 : HR g { st with D := [] } w := hh.frame _ _ hh.Rlt
        cases hq : evalM (evalF P K X hk dk fuel n) fuel (cCode P K (X f) fn.ntmps c) { st with D := [] } with
        | no => rw [hq] at e; cases e
        | ok x1 st1 =>
          rw [hq] at e
          dsimp only at e
          obtain ⟨h1, e⟩ := sel_ok e
          have h1 := ble_t h1
          cases hr : runD (evalD P K X (evalF P K X hk dk fuel n) fuel) dk st1.D (setD [] st1) with
          | no => rw [hr] at e; cases e
          | ok x2 st2 =>
            rw [hr] at e
            dsimp only at e
            refine .inl ⟨by simp [callFunc, hfn, hname, hb], calls_of_wp_defers hfn hb ?_⟩
            refine (codes_ok (n := fn.ntmps) hm ih fuel).1 c g { st with D := [] } w _ x1 st1 _ (hX f fn c hfn hb) hkn hh0 (frame0 hs h0) hq fun w' a' hA => ?_
            obtain ⟨g', e1, e2, e3, e4, e5⟩ := hA
            have q3 : HR g' { st1 with D := [] } w' := e2.frame _ _ e2.Rlt
            have hl : Leaves P fn a'.tmps (fun e w' => ∃ v, e = .returned v ∧ ∃ g', CPost g st w g' st' w' x v) a'.defers .returning w' := by
              refine leaves_ok (K := K) hd (evalD_ok (fuel := fuel) hX hm ih) st1.D a'.defers g' { st1 with D := [] } w' e1 q3 e5.defers hr fun g2 w2 k1 k2 k3 k4 k5 => ?_
              obtain ⟨g3, w3, v, u1, u2⟩ := res_ok (tmps := a'.tmps) (K := K) (fn := fn) k1 k2 (fun t => by rw [k5]; exact (e5.slot t).mono k3.le k4) hrs e
              have := results_world hrs u1
              subst this
              exact ⟨v, u1, v, rfl, g3, ⟨u2.hr, (e3.trans k3).trans u2.fr, (e4.trans k4).trans u2.ext, u2.tr⟩⟩
            match x1, h1 with
            | 0, _ => exact hl
            | 1, _ => exact hl

end
end Ev
end Go.Proofs.YtgdibfnpkcdiiaaGreatDoor
