/- The plain law of sources one behind the other: what lex says of a row of bytes, a blank, and another row. By an AI agent. -/
import Derived.Test.YtkkeocnnecegbaaGreatDoorPlain
namespace Go.Proofs.YtkkeocnnecegbaaGreatDoor

def mapOk {ε α β : Type} (f : α → β) : Except ε α → Except ε β
  | .ok x => .ok (f x)
  | .error e => .error e
/-- lexFrom puts what it finds behind acc. -/
theorem lexFrom_acc (f : Nat) (r : List UInt8) (p : Nat) (acc : List Tok) : lexFrom f r p acc = mapOk (acc ++ ·) (lexFrom f r p []) := by
  induction f generalizing r p acc with
  | zero => simp [lexFrom, mapOk]
  | succ f ih =>
    cases r with
    | nil => simp [lexFrom, mapOk]
    | cons c r =>
      simp only [lexFrom]
      split
      · exact ih r (p + 1) acc
      · cases tokAt (c :: r) with
        | error e => rfl
        | ok x =>
          obtain ⟨k, n, v⟩ := x
          simp only [List.nil_append]
          rw [ih _ _ (acc ++ _), ih _ _ [_]]
          cases lexFrom f ((c :: r).drop n) (p + n) [] <;> simp [mapOk]

/-- A token is not empty, and not longer than the row. -/
theorem tokAt_len {r : List UInt8} {k n : Nat} {v : Int} (h : tokAt r = .ok (k, n, v)) : 0 < n ∧ n ≤ r.length := by
  cases r with
  | nil => simp [tokAt] at h
  | cons c r =>
    unfold tokAt at h
    simp only at h
    split at h
    · rename_i hl
      injection h with h; injection h with _ h; injection h with h _
      subst h
      exact ⟨manyS_pos (by simp [hl]), manyS_le _ _⟩
    · split at h
      · rename_i hd
        split at h
        · injection h with h; injection h with _ h; injection h with h _
          subst h
          exact ⟨manyS_pos hd, manyS_le _ _⟩
        · cases h
      · split at h
        · cases h
        · rename_i hm
          injection h with h; injection h with _ h; injection h with h _
          subst h
          exact ⟨Nat.pos_of_ne_zero hm, markLen_le _⟩

/-- Fuel beyond need changes nothing. -/
theorem lexFrom_fuel (f g : Nat) (r : List UInt8) (p : Nat) (acc : List Tok) (hf : r.length ≤ f) (hg : r.length ≤ g) : lexFrom f r p acc = lexFrom g r p acc := by
  induction f generalizing g r p acc with
  | zero =>
    have : r = [] := List.eq_nil_of_length_eq_zero (by omega)
    subst this
    cases g <;> rfl
  | succ f ih =>
    cases r with
    | nil => cases g <;> rfl
    | cons c r =>
      simp only [List.length_cons] at hf hg
      obtain ⟨g', rfl⟩ : ∃ g', g = g' + 1 := ⟨g - 1, by omega⟩
      simp only [lexFrom]
      split
      · exact ih g' r _ _ (by omega) (by omega)
      · cases ht : tokAt (c :: r) with
        | error e => rfl
        | ok x =>
          obtain ⟨k, n, v⟩ := x
          have hl := tokAt_len ht
          simp only [List.length_cons] at hl
          exact ih g' _ _ _ (by rw [List.length_drop, List.length_cons]; omega) (by rw [List.length_drop, List.length_cons]; omega)

/-- The tokens of a row that begins at place p. -/
def lx (r : List UInt8) (p : Nat) : Except (Nat × Int) (List Tok) := lexFrom r.length r p []
theorem lexS_lx (l : List UInt8) : lexS l = lx l 0 := rfl
theorem lx_nil (p : Nat) : lx [] p = .ok [⟨5, [], 0, p⟩] := rfl
theorem lx_blk {c : UInt8} (h : isBlk c = true) (r : List UInt8) (p : Nat) : lx (c :: r) p = lx r (p + 1) := by
  unfold lx; rw [List.length_cons, lexFrom, if_pos h]
theorem lx_tok {c : UInt8} {r : List UInt8} (h : isBlk c = false) {k n : Nat} {v : Int} (ht : tokAt (c :: r) = .ok (k, n, v)) (p : Nat) : lx (c :: r) p = mapOk (⟨k, (c :: r).take n, v, p⟩ :: ·) (lx ((c :: r).drop n) (p + n)) := by
  have hl := tokAt_len ht
  unfold lx
  rw [List.length_cons, lexFrom, if_neg (by simp [h]), ht]
  simp only [List.nil_append]
  rw [lexFrom_acc, lexFrom_fuel _ ((c :: r).drop n).length _ _ _ (by rw [List.length_drop, List.length_cons]; omega) (Nat.le_refl _)]
  rfl
theorem lx_err {c : UInt8} {r : List UInt8} (h : isBlk c = false) {e : Int} (ht : tokAt (c :: r) = .error e) (p : Nat) : lx (c :: r) p = .error (p, e) := by
  unfold lx
  rw [List.length_cons, lexFrom, if_neg (by simp [h]), ht]

/-- Tokens, so much later. -/
def shiftT (d : Nat) (t : Tok) : Tok := ⟨t.kind, t.text, t.n, t.at' + d⟩
def shiftR (d : Nat) : Except (Nat × Int) (List Tok) → Except (Nat × Int) (List Tok)
  | .ok l => .ok (l.map (shiftT d))
  | .error (p, e) => .error (p + d, e)
/-- Induction over what lex takes off. -/
theorem lx_rec {P : List UInt8 → Nat → Prop} (h0 : ∀ p, P [] p) (hb : ∀ c r p, isBlk c = true → P r (p + 1) → P (c :: r) p)
    (he : ∀ c r p e, isBlk c = false → tokAt (c :: r) = .error e → P (c :: r) p)
    (ht : ∀ c r p k n v, isBlk c = false → tokAt (c :: r) = .ok (k, n, v) → P ((c :: r).drop n) (p + n) → P (c :: r) p) : ∀ l p, P l p := by
  have : ∀ N l p, l.length ≤ N → P l p := by
    intro N
    induction N with
    | zero => intro l p h; have : l = [] := List.eq_nil_of_length_eq_zero (by omega); subst this; exact h0 p
    | succ N ih =>
      intro l p h
      cases l with
      | nil => exact h0 p
      | cons c r =>
        simp only [List.length_cons] at h
        cases hbl : isBlk c
        · cases htk : tokAt (c :: r) with
          | error e => exact he c r p e hbl htk
          | ok x =>
            obtain ⟨k, n, v⟩ := x
            have hl := tokAt_len htk
            simp only [List.length_cons] at hl
            exact ht c r p k n v hbl htk (ih _ _ (by rw [List.length_drop, List.length_cons]; omega))
        · exact hb c r p hbl (ih r (p + 1) (by omega))
  exact fun l p => this l.length l p (Nat.le_refl _)

theorem lx_shift (d : Nat) (l : List UInt8) (p : Nat) : lx l (p + d) = shiftR d (lx l p) := by
  refine lx_rec (P := fun l p => lx l (p + d) = shiftR d (lx l p)) (fun p => rfl) (fun c r p hb ih => ?_) (fun c r p e hb ht => ?_) (fun c r p k n v hb ht ih => ?_) l p
  · simp only [lx_blk hb, ← ih]; congr 1; omega
  · simp only [lx_err hb ht, shiftR]
  · simp only [lx_tok hb ht]
    have : p + d + n = p + n + d := by omega
    rw [this, ih]
    cases lx ((c :: r).drop n) (p + n) <;> simp [mapOk, shiftR, shiftT]

theorem manyS_app {p : UInt8 → Bool} {b : UInt8} (hb : p b = false) (r y : List UInt8) : manyS p (r ++ b :: y) = manyS p r := by
  induction r with
  | nil => rw [List.nil_append, manyS_zero hb]; rfl
  | cons c r ih =>
    unfold manyS at ih ⊢
    rw [List.cons_append, List.takeWhile_cons, List.takeWhile_cons]
    split
    · rw [List.length_cons, List.length_cons, ih]
    · rfl
theorem blk_not {b : UInt8} (h : isBlk b = true) : isLet b = false ∧ isDig b = false ∧ ∀ c, isMarkS [c, b] = false := by
  unfold isBlk at h
  simp only [Bool.or_eq_true, beq_iff_eq] at h
  rcases h with ((rfl | rfl) | rfl) | rfl <;> exact ⟨by decide, by decide, fun c => by simp [isMarkS, mark2L]⟩
theorem markLen_app {b : UInt8} (hb : isBlk b = true) (c : UInt8) (r y : List UInt8) : markLen (c :: r ++ b :: y) = markLen (c :: r) := by
  have h := (blk_not hb).2.2 c
  cases r with
  | nil =>
    unfold markLen
    simp only [List.cons_append, List.nil_append, List.take_succ_cons, List.take_zero, List.take_nil, h]
    by_cases hm : isMarkS [c] = true <;> simp [hm]
  | cons d r => by_cases h1 : isMarkS [c, d] = true <;> by_cases h2 : isMarkS [c] = true <;> simp [markLen, h1, h2]
theorem tokAt_app {b : UInt8} (hb : isBlk b = true) (c : UInt8) (r y : List UInt8) : tokAt (c :: r ++ b :: y) = tokAt (c :: r) := by
  obtain ⟨h1, h2, _⟩ := blk_not hb
  have hw : (fun c => isLet c || isDig c) b = false := by simp [h1, h2]
  have m1 := manyS_app (p := fun c => isLet c || isDig c) hw (c :: r) y
  have m2 := manyS_app h2 (c :: r) y
  have m3 := markLen_app hb c r y
  have k1 := List.take_append_of_le_length (l₂ := b :: y) (manyS_le (fun c => isLet c || isDig c) (c :: r))
  have k2 := List.take_append_of_le_length (l₂ := b :: y) (manyS_le isDig (c :: r))
  rw [List.cons_append] at m1 m2 m3 k1 k2 ⊢
  simp only [tokAt, m1, m2, m3, k1, k2]

theorem lx_ne {l : List UInt8} {p : Nat} {ts : List Tok} (h : lx l p = .ok ts) : ts ≠ [] := by
  have : ∀ l p, ∀ ts, lx l p = .ok ts → ts ≠ [] := by
    refine lx_rec (fun p ts h => ?_) (fun c r p hb ih ts h => ?_) (fun c r p e hb ht ts h => ?_) (fun c r p k n v hb ht ih ts h => ?_)
    · rw [lx_nil] at h; injection h with h; rw [← h]; exact List.cons_ne_nil _ _
    · rw [lx_blk hb] at h; exact ih ts h
    · rw [lx_err hb ht] at h; cases h
    · rw [lx_tok hb ht] at h
      cases hx : lx ((c :: r).drop n) (p + n) with
      | error e => rw [hx] at h; cases h
      | ok x => rw [hx] at h; injection h with h; rw [← h]; exact List.cons_ne_nil _ _
  exact this l p ts h

/-- A row, a blank, a row. -/
theorem lx_more {b : UInt8} (hb : isBlk b = true) (y a : List UInt8) (p : Nat) : lx (a ++ b :: y) p = match lx a p with | .error e => .error e | .ok ts => mapOk (ts.dropLast ++ ·) (lx y (p + a.length + 1)) := by
  refine lx_rec (P := fun a p => lx (a ++ b :: y) p = match lx a p with | .error e => .error e | .ok ts => mapOk (ts.dropLast ++ ·) (lx y (p + a.length + 1))) (fun p => ?_) (fun c r p hc ih => ?_) (fun c r p e hc ht => ?_) (fun c r p k n v hc ht ih => ?_) a p
  · rw [List.nil_append, lx_blk hb, lx_nil]
    cases h : lx y (p + 1) <;> simp [mapOk]
  · simp only [List.cons_append, lx_blk hc, ih, List.length_cons]
    have : p + 1 + r.length + 1 = p + (r.length + 1) + 1 := by omega
    rw [this]
  · have h := tokAt_app hb c r y
    rw [ht] at h
    simp only [lx_err hc ht]
    exact lx_err hc h p
  · have h := tokAt_app hb c r y
    rw [ht] at h
    have hl := tokAt_len ht
    simp only [lx_tok hc ht]
    have h2 : (c :: r ++ b :: y).take n = (c :: r).take n := List.take_append_of_le_length hl.2
    have h3 : (c :: r ++ b :: y).drop n = (c :: r).drop n ++ b :: y := List.drop_append_of_le_length hl.2
    rw [List.cons_append] at h h2 h3 ⊢
    rw [lx_tok hc h, h2, h3, ih]
    have : p + n + ((c :: r).drop n).length + 1 = p + (c :: r).length + 1 := by rw [List.length_drop]; have := hl.2; omega
    rw [this]
    cases h1 : lx ((c :: r).drop n) (p + n) with
    | error e => rfl
    | ok ts =>
      have hne := lx_ne h1
      simp only [mapOk]
      cases lx y (p + (c :: r).length + 1) with
      | error e => rfl
      | ok zs => simp only [List.dropLast_cons_of_ne_nil hne, List.cons_append]
end Go.Proofs.YtkkeocnnecegbaaGreatDoor
