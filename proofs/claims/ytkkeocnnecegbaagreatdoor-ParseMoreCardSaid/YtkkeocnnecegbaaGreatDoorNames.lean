/- The plain law of names and of spelling: which rows of bytes are a name; and what is spelled, token by token. By an AI agent. -/
import Derived.Test.YtkkeocnnecegbaaGreatDoorWalkG
import Derived.Test.YtkkeocnnecegbaaGreatDoorMore
namespace Go.Proofs.YtkkeocnnecegbaaGreatDoor

def isNameS (l : List UInt8) : Bool := match l with
  | [] => false
  | c :: r => isLet c && !isWordS (c :: r) && manyS (fun c => isLet c || isDig c) (c :: r) == (c :: r).length

theorem lx_text {l : List UInt8} {p : Nat} {ts : List Tok} (h : lx l p = .ok ts) : ∀ t ∈ ts, t.text.length ≤ l.length := by
  have : ∀ l p, ∀ ts, lx l p = .ok ts → ∀ t ∈ ts, t.text.length ≤ l.length := by
    refine lx_rec (fun p ts h => ?_) (fun c r p hb ih ts h => ?_) (fun c r p e' hb ht ts h => ?_) (fun c r p k n v hb ht ih ts h => ?_)
    · rw [lx_nil] at h; injection h with h; subst h; intro t ht; simp at ht; subst ht; simp
    · rw [lx_blk hb] at h; intro t ht; have := ih ts h t ht; rw [List.length_cons]; omega
    · rw [lx_err hb ht] at h; cases h
    · rw [lx_tok hb ht] at h
      cases hx : lx ((c :: r).drop n) (p + n) with
      | error e' => rw [hx] at h; cases h
      | ok x =>
        rw [hx] at h; injection h with h; subst h
        intro t htm
        rcases List.mem_cons.1 htm with rfl | htm
        · simp only [List.length_take]; omega
        · have := ih x hx t htm; rw [List.length_drop] at this; omega
  exact this l p ts h

theorem let_blk {c : UInt8} (h : isLet c = true) : isBlk c = false := by
  cases hb : isBlk c
  · rfl
  · rw [(blk_not hb).1] at h; cases h

theorem lxname_yes {s : List UInt8} (h : isNameS s = true) : lexS s = .ok [⟨1, s, 0, 0⟩, ⟨5, [], 0, s.length⟩] := by
  cases s with
  | nil => simp [isNameS] at h
  | cons c r =>
    simp only [isNameS, Bool.and_eq_true, Bool.not_eq_true', beq_iff_eq] at h
    obtain ⟨⟨h1, h2⟩, h3⟩ := h
    have ht : tokAt (c :: r) = .ok (1, (c :: r).length, 0) := by
      simp only [tokAt, h1, if_true, h3, List.take_length, h2]
      rfl
    rw [lexS_lx, lx_tok (let_blk h1) ht, List.take_length, List.drop_length, lx_nil, Nat.zero_add]
    rfl

theorem lxname_no {s : List UInt8} {t u : Tok} (h : lexS s = .ok [t, u]) (hk : t.kind = 1) (ht : t.text = s) : isNameS s = true := by
  rw [lexS_lx] at h
  cases s with
  | nil => rw [lx_nil] at h; injection h with h; simp at h
  | cons c r =>
    cases hb : isBlk c
    · cases htk : tokAt (c :: r) with
      | error e => rw [lx_err hb htk] at h; cases h
      | ok x =>
        obtain ⟨k, n, v⟩ := x
        rw [lx_tok hb htk] at h
        cases hx : lx ((c :: r).drop n) (0 + n) with
        | error e' => rw [hx] at h; cases h
        | ok x =>
          rw [hx] at h
          simp only [mapOk] at h
          injection h with h
          injection h with h _
          subst h
          simp only at hk ht
          have hl := tokAt_len htk
          have hn : n = (c :: r).length := by
            have := congrArg List.length ht
            rw [List.length_take] at this
            omega
          unfold tokAt at htk
          simp only at htk
          split at htk
          · rename_i h1
            injection htk with htk
            injection htk with e1 htk
            injection htk with e2 e3
            rw [e2, hn, List.take_length] at e1
            simp only [isNameS, h1, Bool.true_and, Bool.and_eq_true, Bool.not_eq_true', beq_iff_eq]
            refine ⟨?_, e2.trans hn⟩
            cases hw : isWordS (c :: r)
            · rfl
            · rw [hw, hk] at e1; simp at e1
          · split at htk
            · split at htk
              · injection htk with htk; injection htk with e1 htk; omega
              · cases htk
            · split at htk
              · cases htk
              · injection htk with htk; injection htk with e1 htk; omega
    · rw [lx_blk hb] at h
      have := lx_text h t (by simp)
      rw [ht, List.length_cons] at this
      omega

theorem join_snoc {L : List (List UInt8)} (hL : ∀ y ∈ L, y ≠ []) (x : List UInt8) : Lib.join (L ++ [x]) [32] = if Lib.join L [32] = [] then x else Lib.join L [32] ++ 32 :: x := by
  cases L with
  | nil => rw [List.nil_append, Lib.join_one, Lib.join_nil, if_pos rfl]
  | cons y r =>
    rw [List.cons_append, Lib.join_cons, Lib.join_cons, if_neg]
    · simp [Lib.joinTail]
    · have := hL y (by simp)
      cases y with
      | nil => exact absurd rfl this
      | cons _ _ => simp
theorem texts_ne (ts : List Tok) : ∀ y ∈ texts ts, y ≠ [] := by
  intro y hy
  unfold texts at hy
  obtain ⟨t, ht, rfl⟩ := List.mem_map.1 hy
  have := (List.mem_filter.1 ht).2
  simp only [good, Bool.and_eq_true, Bool.not_eq_true'] at this
  intro e
  rw [e] at this
  simp at this
theorem spell_yes {ts : List Tok} {j : Nat} {t : Tok} (h : ts[j]? = some t) (hg : good t = true) : spellL (ts.take (j + 1)) = if spellL (ts.take j) = [] then t.text else spellL (ts.take j) ++ 32 :: t.text := by
  unfold spellL; rw [texts_yes h hg, join_snoc (texts_ne _)]
theorem spell_no {ts : List Tok} {j : Nat} {t : Tok} (h : ts[j]? = some t) (hg : good t = false) : spellL (ts.take (j + 1)) = spellL (ts.take j) := by
  unfold spellL; rw [texts_no h hg]
end Go.Proofs.YtkkeocnnecegbaaGreatDoor
