/- A call that was reckoned by itself stands for a call in a greater reckoning. No condition. -/
import Derived.Test.YtgdibfnpkcdiiaaGreatDoorEwL
namespace Go.Proofs.YtgdibfnpkcdiiaaGreatDoor
open Go.RowKit
namespace Ev

/-- Is it that state, handed so many arguments? -/
noncomputable def stB' (T n R nR M nM S nS : Nat) (st : St) : Bool := St.rec (fun T' D R' nR' M' nM' S' nS' => List.rec false (fun q _ _ => Prod.rec (fun m _ => sel (Nat.beq m n) (sel (Nat.beq T' T) (sel (Nat.beq R' R) (sel (Nat.beq nR' nR) (sel (Nat.beq M' M)
  (sel (Nat.beq nM' nM) (sel (Nat.beq S' S) (Nat.beq nS' nS) false) false) false) false) false) false) false) q) D) st
theorem sel_t {b c : Bool} (h : sel b c false = true) : b = true ∧ c = true := by
  cases b with
  | true => exact ⟨rfl, h⟩
  | false => cases h
theorem stB'_ok {T n R nR M nM S nS k : Nat} {st : St} (hD : st.D = [(k, [])]) (h : stB' T n R nR M nM S nS st = true) : st = ⟨T, [(n, [])], R, nR, M, nM, S, nS⟩ := by
  cases st with
  | mk T' D R' nR' M' nM' S' nS' =>
    have hD : D = [(k, [])] := hD
    subst hD
    change sel (Nat.beq k n) (sel (Nat.beq T' T) (sel (Nat.beq R' R) (sel (Nat.beq nR' nR) (sel (Nat.beq M' M) (sel (Nat.beq nM' nM) (sel (Nat.beq S' S) (Nat.beq nS' nS) false) false) false) false) false) false) false = true at h
    obtain ⟨h1, h⟩ := sel_t h
    obtain ⟨h2, h⟩ := sel_t h
    obtain ⟨h3, h⟩ := sel_t h
    obtain ⟨h4, h⟩ := sel_t h
    obtain ⟨h5, h⟩ := sel_t h
    obtain ⟨h6, h⟩ := sel_t h
    obtain ⟨h7, h8⟩ := sel_t h
    rw [beq_t h1, beq_t h2, beq_t h3, beq_t h4, beq_t h5, beq_t h6, beq_t h7, beq_t h8]

/-- It answers true, and leaves what was. -/
noncomputable def okAt (M nM : Nat) (r : RS) : Bool := RS.rec false (fun w s => sel (Nat.beq w 17) (Nat.beq (Nat.land s.M (Nat.sub (Nat.pow 2 (Nat.mul 128 nM)) 1)) M) false) r

section
variable {P : Program} {K : Kon} {X : Nat → Nat → Option Plan} {hk : Nat → Option (St → RS)} {dk : Nat → Bool} {fuel : Nat}
theorem hook_at (hX : ∀ f fn c, P.funcs[f]? = some fn → fn.body = some c → okX P K (X f) fn.ntmps c = true) (hm : P.follows .mixedOrders = true) (hH : ∀ f h, hk f = some h → HookV P K f h) (hd : DkV P dk) {N f T n R nR M nM S nS : Nat} (r : okAt M nM (evalF P K X hk dk fuel N f ⟨T, [(n, [])], R, nR, M, nM, S, nS⟩) = true) :
    HookV P K f fun st => sel (stB' T n R nR M nM S nS st) (.ok 17 st) .no := fun g st w args x st' hK hh hD hs h0 e => by
  dsimp only at e
  cases hb : stB' T n R nR M nM S nS st with
  | false => rw [hb] at e; cases e
  | true =>
    rw [hb] at e
    change RS.ok 17 st = RS.ok x st' at e
    injection e with e1 e2
    subst e1; subst e2
    have hst := stB'_ok hD hb
    cases hr : evalF P K X hk dk fuel N f ⟨T, [(n, [])], R, nR, M, nM, S, nS⟩ with
    | no => rw [hr] at r; cases r
    | ok y s =>
      rw [hr] at r
      obtain ⟨r1, r2⟩ := sel_t (show sel (Nat.beq y 17) (Nat.beq (Nat.land s.M (Nat.sub (Nat.pow 2 (Nat.mul 128 nM)) 1)) M) false = true from r)
      have hy := beq_t r1
      subst hy
      have hv := evalF_ok (fuel := fuel) hX hm hH hd N f g st w args 17 s hK hh hD hs h0 (by rw [hst]; exact hr)
      refine hv.mono fun v w' ⟨g', hp⟩ => ⟨g, ?_⟩
      obtain ⟨q1, q2⟩ := back_ok hh hp.hr hp.fr fun i hi => gt_low (n := st.nM) (M := st.M) (by rw [hst]; exact beq_t r2) i hi
      exact ⟨q1, q2, Ext.refl _ _, small_tr _ _ _ hp.tr rfl⟩

theorem hook_or {f : Nat} {h1 h2 : St → RS} (a : HookV P K f h1) (b : HookV P K f h2) : HookV P K f fun st => RS.rec (h2 st) (fun w s => .ok w s) (h1 st) := fun g st w args x st' hK hh hD hs h0 e => by
  dsimp only at e
  cases h : h1 st with
  | no => rw [h] at e; exact b g st w args x st' hK hh hD hs h0 e
  | ok y s => rw [h] at e; exact a g st w args x st' hK hh hD hs h0 (h.trans e)
end

/-- What the evaluator says of a closed call that answers true, with more hooks. -/
theorem run_okH {X : Nat → Nat → Option Plan} (hX : ∀ f fn c, Tryz.prog.funcs[f]? = some fn → fn.body = some c → okX Tryz.prog K0 (X f) fn.ntmps c = true) {hk' : Nat → Option (St → RS)} (hH : ∀ f h, hk' f = some h → HookV Tryz.prog K0 f h) {f : Nat} {fn : Func} {c : Code} (hf : Tryz.prog.funcs[f]? = some fn) (hn : (fn.name == "runtime.NumGoroutine") = false) (hb : fn.body = some c) (hm : Tryz.prog.follows .mixedOrders = true)
    (h : isOk (evalF Tryz.prog K0 X hk' dk 1000000 1000 f ⟨0, [(0, [])], 0, 0, 0, 0, K0.S, K0.n⟩) = true) (w : World) :
    Calls Tryz.prog f #[] w fun e w' => e = .returned (.bool true) ∧ Below w.heap.size w w' := by
  cases hr : evalF Tryz.prog K0 X hk' dk 1000000 1000 f ⟨0, [(0, [])], 0, 0, 0, 0, K0.S, K0.n⟩ with
  | no => rw [hr] at h; cases h
  | ok x st' =>
    rw [hr] at h
    have hx : x = 17 := beq_t h
    subst hx
    have hv := evalF_ok (fuel := 1000000) hX hm hH dk_ok 1000 f K0.gh _ w #[] 17 st' ⟨Nat.le_refl _, fun _ _ => rfl⟩ (hr0 w) rfl (fun i => by rw [show gt 0 i = 0 from gt_zero i]; exact .unk _) (fun i _ => gt_zero i) hr
    rcases hv with ⟨_, hv⟩ | ⟨v, w', hv, _⟩
    · refine hv.mono fun e w' ⟨v, e1, g', hp⟩ => ?_
      obtain ⟨b, b1, b2⟩ := (hp.tr.cell_inv (by decide) (by decide) (by decide) (by decide)).bool_inv rfl
      have hb1 : b = true := by cases b with
        | true => rfl
        | false => exact absurd b1 (by decide)
      subst hb1
      have hno : ∀ k, ¬ Own K0.gh k := fun k hk => by
        rcases hk with ⟨s, base, z, room, hs⟩ | ⟨s, hs⟩
        · cases hs
        · cases hs
      exact ⟨by rw [e1, b2], hp.fr.os, hp.fr.tape, hp.fr.output, hp.fr.size, fun k hk => hp.fr.keep k hk (hno k)⟩
    · rw [enter_of hf hn hb] at hv
      cases hv
end Ev
end Go.Proofs.YtgdibfnpkcdiiaaGreatDoor
