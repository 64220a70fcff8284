/- What is told anew: a word's meaning goes back to the state before. No condition. -/
import Derived.Test.YtgdibfnpkcdiiaaGreatDoorEwB
namespace Go.Proofs.YtgdibfnpkcdiiaaGreatDoor
namespace Ev

theorem TR.back {g g1 : Gh} {R nR R1 nR1 : Nat} (h : g.le g1) (hx : Ext R nR R1 nR1) {w : Nat} {v0 v : Value} (h0 : TR g R nR w v0) (h1 : TR g1 R1 nR1 w v) : TR g R nR w v := by
  induction h0 generalizing v with
  | unk => exact .unk _
  | und => rw [und_inv h1 rfl]; exact .und
  | cell w v0 h0 =>
    have ht := h0.tag
    by_cases hz : w = 0
    · subst hz; exact .unk _
    · exact .cell _ _ (h0.back h (h1.cell_inv ht.1 ht.2.1 ht.2.2 hz))
  | agg st n vs hn hs hb hv hc =>
    obtain ⟨st', n', vs', e1, e2, e3, e4, e5, e6, e7⟩ := h1.agg_inv (by unfold eAgg; omega)
    have e8 : st = st' ∧ n = n' := by unfold eAgg at e1; omega
    obtain ⟨rfl, rfl⟩ := e8
    rw [e2]
    exact .agg st n vs' hn hs hb e6 fun i hi => (hc i hi).back h (by have := e7 i hi; rwa [hx.2 _ (by omega)] at this)
  | tup st n vs hn hs hb hv _ ih =>
    obtain ⟨st', n', vs', e1, e2, e3, e4, e5, e6, e7⟩ := h1.tup_inv (by unfold eTup; omega)
    have e8 : st = st' ∧ n = n' := by unfold eTup at e1; omega
    obtain ⟨rfl, rfl⟩ := e8
    rw [e2]
    exact .tup st n vs' hn hs hb e6 fun i hi => ih i hi (by have := e7 i hi; rwa [hx.2 _ (by omega)] at this)

/-- The same, told anew. -/
theorem sameW_ok {g g1 : Gh} {st s : St} {w' : World} (h : g.le g1) (hr : HR g1 s w') (hx : Ext st.R st.nR s.R s.nR) {x y : Nat} {v0 v : Value} (h0 : TR g st.R st.nR y v0) (h1 : TR g1 s.R s.nR x v) (e : sameW s x y = true) : TR g st.R st.nR y v := by
  unfold sameW at e
  cases q1 : Nat.beq x y with
  | true => rw [beq_t q1] at h1; exact h0.back h hx h1
  | false =>
    rw [q1, sel_false] at e
    cases q2 : Nat.beq (Nat.mod y 16) 3 with
    | true =>
      rw [q2, sel_true] at e
      cases q3 : Nat.beq (Nat.mod x 16) 3 with
      | false => rw [q3, sel_false] at e; cases e
      | true =>
        rw [q3, sel_true] at e
        have q2 : y % 16 = 3 := beq_t q2
        have q3 : x % 16 = 3 := beq_t q3
        obtain ⟨a1, a2, a3, a4, a5⟩ := h1.str q3
        obtain ⟨b1, b2, b3, b4, b5⟩ := h0.str q2
        rw [strEq_ok a1 b1] at e
        have e := of_decide_eq_true e
        rw [hr.S, strOf_le h b4] at e
        rw [a2, e, ← b2]; exact h0
    | false =>
      rw [q2, sel_false] at e
      cases q3 : Nat.beq (Nat.mod y 16) 12 with
      | false => rw [q3, sel_false] at e; cases e
      | true =>
        rw [q3, sel_true] at e
        cases q4 : Nat.beq (Nat.mod x 16) 12 with
        | false => rw [q4, sel_false] at e; cases e
        | true =>
          rw [q4, sel_true] at e
          cases q5 : Nat.beq (ln x) (ln y) with
          | false => rw [q5, sel_false] at e; cases e
          | true =>
            rw [q5, sel_true] at e
            have q3 : y % 16 = 12 := beq_t q3
            have q4 : x % 16 = 12 := beq_t q4
            have q5 := beq_t q5
            have e := beq_t e
            obtain ⟨vs, a1, a2, a3, a4, a5, a6, a7⟩ := h1.agg' q4
            obtain ⟨us, b1, b2, b3, b4, b5, b6, b7⟩ := h0.agg' q3
            rw [b1, a2]
            refine .agg _ _ vs b3 b4 b5 (by omega) fun i hi => (b7 i hi).back h ?_
            have h2 := a7 i (by omega)
            have h3 := congrArg (fun m => gt m i) e
            simp only [gt_ch, if_pos (show i < ln x by omega)] at h3
            rw [h3, if_pos (by omega), hx.2 _ (by omega)] at h2
            exact h2

end Ev
end Go.Proofs.YtgdibfnpkcdiiaaGreatDoor
