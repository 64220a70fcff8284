/- The plain law of a blank put ahead of a token: nothing but places changes. By an AI agent. -/
import Derived.Test.YtkkeocnnecegbaaGreatDoorMore
namespace Go.Proofs.YtkkeocnnecegbaaGreatDoor

theorem manyS_min (p : UInt8 → Bool) (l : List UInt8) (m : Nat) : manyS p (l.take m) = min m (manyS p l) := by
  induction l generalizing m with
  | nil => simp [manyS]
  | cons c r ih =>
    cases m with
    | zero => simp [manyS]
    | succ m =>
      have := ih m
      unfold manyS at this ⊢
      rw [List.take_succ_cons, List.takeWhile_cons, List.takeWhile_cons]
      split
      · rw [List.length_cons, List.length_cons, this]; omega
      · simp
theorem markLen_take {l : List UInt8} {n m : Nat} (h : markLen l = n) (h0 : 0 < n) (hm : n ≤ m) : markLen (l.take m) = n := by
  unfold markLen at h ⊢
  rw [List.take_take, List.take_take, List.length_take]
  by_cases h2 : 2 ≤ m
  · rw [Nat.min_eq_left h2, Nat.min_eq_left (by omega : 1 ≤ m)]
    split at h
    · rw [if_pos (by assumption)]; omega
    · split at h
      · rw [if_neg (by assumption), if_pos (by assumption)]; exact h
      · omega
  · obtain rfl : m = 1 := by omega
    obtain rfl : n = 1 := by omega
    rw [Nat.min_eq_right (by omega : 1 ≤ 2), Nat.min_self]
    split at h
    · have hl : l.length ≤ 1 := by omega
      have e : l.take 1 = l.take 2 := by rw [List.take_of_length_le hl, List.take_of_length_le (by omega)]
      rw [e, if_pos (by assumption)]; omega
    · split at h
      · rw [if_pos (by assumption)]
        have : l ≠ [] := by
          rintro rfl
          rename_i h1
          simp [isMarkS, mark2L] at h1
        have := List.length_pos_iff.2 this
        omega
      · omega
/-- A prefix that holds the token has it, too. -/
theorem tokAt_take {c : UInt8} {r : List UInt8} {k n m : Nat} {v : Int} (h : tokAt (c :: r) = .ok (k, n, v)) (hm : n ≤ m) : tokAt ((c :: r).take m) = .ok (k, n, v) := by
  have hl := tokAt_len h
  obtain ⟨m', rfl⟩ : ∃ m', m = m' + 1 := ⟨m - 1, by omega⟩
  have tt : ∀ j, j ≤ m' + 1 → (c :: r.take m').take j = (c :: r).take j := fun j hj => by
    rw [← List.take_succ_cons, List.take_take, Nat.min_eq_left hj]
  have mm : ∀ p, manyS p (c :: r.take m') = min (m' + 1) (manyS p (c :: r)) := fun p => by rw [← List.take_succ_cons]; exact manyS_min p _ _
  rw [List.take_succ_cons]
  unfold tokAt at h ⊢
  simp only at h ⊢
  split at h
  · rename_i h1
    rw [if_pos h1]
    injection h with h; injection h with e1 h; injection h with e2 e3
    rw [mm, e2, Nat.min_eq_right hm, tt n hm, ← e1, ← e2, ← e3]
  · rename_i h1
    rw [if_neg h1]
    split at h
    · rename_i h2
      rw [if_pos h2]
      split at h
      · rename_i v' hv
        injection h with h; injection h with e1 h; injection h with e2 e3
        rw [mm, e2, Nat.min_eq_right hm, tt n hm, ← e2, hv, ← e1, ← e3]
      · cases h
    · rename_i h2
      rw [if_neg h2]
      split at h
      · cases h
      · rename_i h3
        injection h with h; injection h with e1 h; injection h with e2 e3
        have := markLen_take (m := m' + 1) e2 hl.1 hm
        rw [List.take_succ_cons] at this
        rw [this, if_neg (by omega), ← e1, ← e3]

theorem lx_from {l : List UInt8} {p : Nat} {ts : List Tok} (h : lx l p = .ok ts) : (∀ t ∈ ts, p ≤ t.at') ∧ ts.Pairwise (fun a b => a.at' < b.at') := by
  have : ∀ l p, ∀ ts, lx l p = .ok ts → (∀ t ∈ ts, p ≤ t.at') ∧ ts.Pairwise (fun a b => a.at' < b.at') := by
    refine lx_rec (fun p ts h => ?_) (fun c r p hb ih ts h => ?_) (fun c r p e' hb ht ts h => ?_) (fun c r p k n v hb ht ih ts h => ?_)
    · rw [lx_nil] at h; injection h with h; subst h; simp
    · rw [lx_blk hb] at h
      obtain ⟨h1, h2⟩ := ih ts h
      exact ⟨fun t htm => by have := h1 t htm; omega, h2⟩
    · rw [lx_err hb ht] at h; cases h
    · rw [lx_tok hb ht] at h
      cases hx : lx ((c :: r).drop n) (p + n) with
      | error e' => rw [hx] at h; cases h
      | ok x =>
        rw [hx] at h; injection h with h; subst h
        obtain ⟨h1, h2⟩ := ih x hx
        have hl := tokAt_len ht
        refine ⟨fun t htm => ?_, List.pairwise_cons.2 ⟨fun t htm => ?_, h2⟩⟩
        · rcases List.mem_cons.1 htm with rfl | htm
          · exact Nat.le_refl _
          · have := h1 t htm; omega
        · have := h1 t htm; simp only; omega
  exact this l p ts h

/-- What stands ahead of a token, and from it on. -/
theorem lx_split {l : List UInt8} {p : Nat} {ts : List Tok} (h : lx l p = .ok ts) : ∀ i t, ts[i]? = some t → lx (l.take (t.at' - p)) p = .ok (ts.take i ++ [⟨5, [], 0, t.at'⟩]) ∧ lx (l.drop (t.at' - p)) t.at' = .ok (ts.drop i) := by
  have : ∀ l p, ∀ ts, lx l p = .ok ts → ∀ i t, ts[i]? = some t → lx (l.take (t.at' - p)) p = .ok (ts.take i ++ [⟨5, [], 0, t.at'⟩]) ∧ lx (l.drop (t.at' - p)) t.at' = .ok (ts.drop i) := by
    refine lx_rec (fun p ts h i t hi => ?_) (fun c r p hb ih ts h i t hi => ?_) (fun c r p e' hb ht ts h i t hi => ?_) (fun c r p k n v hb ht ih ts h i t hi => ?_)
    · rw [lx_nil] at h; injection h with h; subst h
      cases i with
      | zero => simp at hi; subst hi; exact ⟨by simp [lx_nil], by simp [lx_nil]⟩
      | succ i => simp at hi
    · rw [lx_blk hb] at h
      have h1 := (lx_from h).1 t (List.mem_of_getElem? hi)
      obtain ⟨h2, h3⟩ := ih ts h i t hi
      obtain ⟨d, hd⟩ : ∃ d, t.at' = p + 1 + d := ⟨t.at' - (p + 1), by omega⟩
      have e1 : t.at' - p = d + 1 := by omega
      have e2 : t.at' - (p + 1) = d := by omega
      rw [e2] at h2 h3
      rw [e1, List.take_succ_cons, List.drop_succ_cons, lx_blk hb]
      exact ⟨h2, h3⟩
    · rw [lx_err hb ht] at h; cases h
    · have h0 := h
      rw [lx_tok hb ht] at h
      cases hx : lx ((c :: r).drop n) (p + n) with
      | error e' => rw [hx] at h; cases h
      | ok x =>
        rw [hx] at h; injection h with h
        cases i with
        | zero =>
          subst h
          simp only [List.getElem?_cons_zero, Option.some.injEq] at hi
          subst hi
          simp only [Nat.sub_self, List.take_zero, List.drop_zero, List.nil_append]
          exact ⟨lx_nil _, h0⟩
        | succ i =>
          subst h
          rw [List.getElem?_cons_succ] at hi
          have h1 := (lx_from hx).1 t (List.mem_of_getElem? hi)
          obtain ⟨h2, h3⟩ := ih x hx i t hi
          have hl := tokAt_len ht
          have hn : n ≤ t.at' - p := by omega
          have hk := tokAt_take ht hn
          obtain ⟨d, hd⟩ : ∃ d, t.at' - p = d + 1 := ⟨t.at' - p - 1, by omega⟩
          have e3 : t.at' - (p + n) = t.at' - p - n := by omega
          rw [e3] at h2 h3
          have hk' : tokAt (c :: r.take d) = .ok (k, n, v) := by rw [← List.take_succ_cons, ← hd]; exact hk
          have e4 : (c :: r.take d).take n = (c :: r).take n := by rw [← List.take_succ_cons, ← hd, List.take_take, Nat.min_eq_left hn]
          have e5 : (c :: r.take d).drop n = ((c :: r).drop n).take (t.at' - p - n) := by rw [← List.take_succ_cons, ← hd, List.drop_take]
          constructor
          · rw [hd, List.take_succ_cons, lx_tok hb hk', e4, e5, h2]; rfl
          · rw [List.drop_succ_cons, ← h3, List.drop_drop]; congr 2; omega
  exact this l p ts h

/-- A BLANK AHEAD OF A TOKEN. -/
theorem lx_blanks {b : UInt8} (hb : isBlk b = true) {l : List UInt8} {ts : List Tok} (h : lx l 0 = .ok ts) {i : Nat} {t : Tok} (hi : ts[i]? = some t) (hle : t.at' ≤ l.length) :
    lx (l.take t.at' ++ b :: l.drop t.at') 0 = .ok (ts.take i ++ (ts.drop i).map (shiftT 1)) := by
  obtain ⟨h1, h2⟩ := lx_split h i t hi
  rw [Nat.sub_zero] at h1 h2
  rw [lx_more hb, h1]
  have e : 0 + (l.take t.at').length + 1 = t.at' + 1 := by rw [List.length_take]; omega
  simp only [e, lx_shift 1, h2, shiftR, mapOk]
  rw [List.dropLast_concat]
end Go.Proofs.YtkkeocnnecegbaaGreatDoor
