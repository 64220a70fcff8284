/- The plain law of what is spelled: it has the same tokens, but for places; and where tokens stand in their source. By an AI agent. -/
import Derived.Test.YtkkeocnnecegbaaGreatDoorNames
import Derived.Test.YtkkeocnnecegbaaGreatDoorBlanks
namespace Go.Proofs.YtkkeocnnecegbaaGreatDoor

def strip (t : Tok) : Nat × List UInt8 × Int := (t.kind, t.text, t.n)
theorem tokAt_kind {r : List UInt8} {k n : Nat} {v : Int} (h : tokAt r = .ok (k, n, v)) : k ≠ 5 := by
  cases r with
  | nil => simp [tokAt] at h
  | cons c r =>
    unfold tokAt at h
    simp only at h
    split at h
    · injection h with h; injection h with e _; subst e; split <;> decide
    · split at h
      · split at h
        · injection h with h; injection h with e _; subst e; decide
        · cases h
      · split at h
        · cases h
        · injection h with h; injection h with e _; subst e; decide

/-- A token whose text has just itself. -/
def Self (t : Tok) : Prop := ∃ c r, t.text = c :: r ∧ isBlk c = false ∧ tokAt (c :: r) = .ok (t.kind, (c :: r).length, t.n)
theorem self_good {t : Tok} (h : Self t) : good t = true := by
  obtain ⟨c, r, h1, _, h3⟩ := h
  have := tokAt_kind h3
  simp [good, h1, this]

theorem lx_inner {l : List UInt8} {p : Nat} {ts : List Tok} (h : lx l p = .ok ts) : ∃ inner e, ts = inner ++ [⟨5, [], 0, e⟩] ∧ ∀ t ∈ inner, Self t := by
  have : ∀ l p, ∀ ts, lx l p = .ok ts → ∃ inner e, ts = inner ++ [⟨5, [], 0, e⟩] ∧ ∀ t ∈ inner, Self t := by
    refine lx_rec (fun p ts h => ?_) (fun c r p hb ih ts h => ?_) (fun c r p e' hb ht ts h => ?_) (fun c r p k n v hb ht ih ts h => ?_)
    · rw [lx_nil] at h; injection h with h; exact ⟨[], p, by rw [← h]; rfl, by simp⟩
    · rw [lx_blk hb] at h; exact ih ts h
    · rw [lx_err hb ht] at h; cases h
    · rw [lx_tok hb ht] at h
      cases hx : lx ((c :: r).drop n) (p + n) with
      | error e' => rw [hx] at h; cases h
      | ok x =>
        rw [hx] at h; injection h with h; subst h
        obtain ⟨inner, e, rfl, hi⟩ := ih x hx
        have hl := tokAt_len ht
        refine ⟨⟨k, (c :: r).take n, v, p⟩ :: inner, e, rfl, fun t htm => ?_⟩
        rcases List.mem_cons.1 htm with rfl | htm
        · obtain ⟨m, rfl⟩ : ∃ m, n = m + 1 := ⟨n - 1, by omega⟩
          have hk := tokAt_take ht (Nat.le_refl _)
          rw [List.take_succ_cons] at hk
          refine ⟨c, r.take m, by simp, hb, ?_⟩
          have hlen : (c :: r.take m).length = m + 1 := by
            rw [List.length_cons, List.length_take]
            have := hl.2; rw [List.length_cons] at this; omega
          rw [hlen]; exact hk
        · exact hi t htm
  exact this l p ts h

theorem lx_self {t : Tok} (h : Self t) (q : Nat) : lx t.text q = .ok [⟨t.kind, t.text, t.n, q⟩, ⟨5, [], 0, q + t.text.length⟩] := by
  obtain ⟨c, r, h1, h2, h3⟩ := h
  rw [h1, lx_tok h2 h3, List.take_length, List.drop_length, lx_nil]
  rfl

theorem respell (inner : List Tok) (h : ∀ t ∈ inner, Self t) : ∀ q, ∃ bs, lx (Lib.join (inner.map (·.text)) [32]) q = .ok bs ∧ bs.map strip = inner.map strip ++ [(5, [], 0)] := by
  induction inner with
  | nil => intro q; exact ⟨_, by rw [List.map_nil, Lib.join_nil]; exact lx_nil q, rfl⟩
  | cons t r ih =>
    intro q
    have ht := h t (by simp)
    cases r with
    | nil => exact ⟨_, by rw [List.map_cons, List.map_nil, Lib.join_one]; exact lx_self ht q, rfl⟩
    | cons u r =>
      have ih' := ih (fun t' ht' => h t' (List.mem_cons_of_mem _ ht'))
      obtain ⟨bs, hb1, hb2⟩ := ih' (q + t.text.length + 1)
      have hj : Lib.join ((t :: u :: r).map (·.text)) [32] = t.text ++ 32 :: Lib.join ((u :: r).map (·.text)) [32] := by
        simp only [List.map_cons]
        rw [Lib.join_cons, Lib.join_cons]
        simp [Lib.joinTail]
      refine ⟨⟨t.kind, t.text, t.n, q⟩ :: bs, ?_, ?_⟩
      · rw [hj, lx_more (by decide), lx_self ht]
        simp only [hb1, mapOk]
        rfl
      · rw [List.map_cons, hb2]; rfl
theorem texts_inner (inner : List Tok) (h : ∀ t ∈ inner, Self t) (e : Nat) : texts (inner ++ [⟨5, [], 0, e⟩]) = inner.map (·.text) := by
  unfold texts
  rw [List.filter_append, List.filter_eq_self.2 (fun t ht => self_good (h t ht))]
  simp [good]
/-- WHAT IS SPELLED HAS THE SAME TOKENS, BUT FOR PLACES. -/
theorem spelled_same {l : List UInt8} {ts : List Tok} (h : lexS l = .ok ts) : ∃ bs, lexS (spellL ts) = .ok bs ∧ bs.map strip = ts.map strip := by
  rw [lexS_lx] at h
  obtain ⟨inner, e, rfl, hi⟩ := lx_inner h
  obtain ⟨bs, h1, h2⟩ := respell inner hi 0
  refine ⟨bs, ?_, ?_⟩
  · rw [lexS_lx, spellL, texts_inner inner hi]; exact h1
  · rw [h2, List.map_append]; rfl

/-- Tokens at their places, one behind the other, blanks between. -/
def Spaced (L : List UInt8) : Nat → List Tok → Prop
  | nx, [] => nx = L.length
  | nx, t :: r => nx ≤ t.at' ∧ t.at' + t.text.length ≤ L.length ∧ (L.drop t.at').take t.text.length = t.text ∧ (t.kind = 5 ↔ r = []) ∧ (∀ k, nx ≤ k → k < t.at' → ∃ b, L[k]? = some b ∧ isBlk b = true) ∧ Spaced L (t.at' + t.text.length) r
theorem lx_spaced {L : List UInt8} {ts : List Tok} (h : lexS L = .ok ts) : Spaced L 0 ts := by
  have : ∀ l p, ∀ L ts, l = L.drop p → p ≤ L.length → lx l p = .ok ts → Spaced L p ts := by
    refine lx_rec (fun p L ts hl hp h => ?_) (fun c r p hb ih L ts hl hp h => ?_) (fun c r p e' hb ht L ts hl hp h => ?_) (fun c r p k n v hb ht ih L ts hl hp h => ?_)
    · rw [lx_nil] at h; injection h with h; subst h
      have hlen := congrArg List.length hl
      rw [List.length_drop, List.length_nil] at hlen
      refine ⟨Nat.le_refl _, by simp only [List.length_nil]; omega, rfl, by simp, fun k h1 h2 => ?_, ?_⟩
      · simp only at h2; omega
      · show p + 0 = L.length; omega
    · rw [lx_blk hb] at h
      have hlen := congrArg List.length hl
      rw [List.length_drop, List.length_cons] at hlen
      have hr : r = L.drop (p + 1) := by
        have := congrArg (List.drop 1) hl
        rw [List.drop_drop] at this
        rw [Nat.add_comm] at this
        simpa [Nat.add_comm] using this
      have h1 := ih L ts hr (by omega) h
      have hc : L[p]? = some c := by
        have := congrArg (·[0]?) hl
        simp at this
        exact this.symm
      cases ts with
      | nil => exact absurd rfl (lx_ne h)
      | cons t x =>
        obtain ⟨a1, a2, a3, a4, a5, a6⟩ := h1
        refine ⟨by omega, a2, a3, a4, fun k hk1 hk2 => ?_, a6⟩
        by_cases hkp : k = p
        · subst hkp; exact ⟨c, hc, hb⟩
        · exact a5 k (by omega) hk2
    · rw [lx_err hb ht] at h; cases h
    · rw [lx_tok hb ht] at h
      cases hx : lx ((c :: r).drop n) (p + n) with
      | error e' => rw [hx] at h; cases h
      | ok x =>
        rw [hx] at h; injection h with h; subst h
        have hln := tokAt_len ht
        have hlen := congrArg List.length hl
        rw [List.length_drop] at hlen
        have htl : ((c :: r).take n).length = n := by rw [List.length_take]; omega
        have h1 := ih L x (by rw [hl, List.drop_drop]) (by omega) hx
        refine ⟨Nat.le_refl _, by simp only [htl]; omega, ?_, ?_, fun k h1 h2 => by simp only at h2; omega, ?_⟩
        · simp only [htl]; rw [← hl]
        · have := tokAt_kind ht
          have h3 := lx_ne hx
          simp [this, h3]
        · simp only [htl]; exact h1
  exact this L 0 L ts rfl (Nat.zero_le _) h
end Go.Proofs.YtkkeocnnecegbaaGreatDoor
