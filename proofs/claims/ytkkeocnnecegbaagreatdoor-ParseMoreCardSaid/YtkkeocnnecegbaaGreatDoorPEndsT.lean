/- Plain law of ParseEnds: ahead of an error's token, and behind it. By an AI agent. -/
import Derived.Test.YtkkeocnnecegbaaGreatDoorJG
namespace Go.Proofs.YtkkeocnnecegbaaGreatDoor
open Go.RowKit

theorem lx_last {l : List UInt8} {p : Nat} {ts : List Tok} (h : lx l p = .ok ts) : ∃ inner, ts = inner ++ [⟨5, [], 0, p + l.length⟩] := by
  have : ∀ l p, ∀ ts, lx l p = .ok ts → ∃ inner, ts = inner ++ [⟨5, [], 0, p + l.length⟩] := by
    refine lx_rec (fun p ts h => ?_) (fun c r p hb ih ts h => ?_) (fun c r p e' hb ht ts h => ?_) (fun c r p k n v hb ht ih ts h => ?_)
    · rw [lx_nil] at h; injection h with h; exact ⟨[], by rw [← h]; rfl⟩
    · rw [lx_blk hb] at h
      obtain ⟨i, rfl⟩ := ih ts h
      exact ⟨i, by rw [List.length_cons, show p + 1 + r.length = p + (r.length + 1) by omega]⟩
    · rw [lx_err hb ht] at h; cases h
    · rw [lx_tok hb ht] at h
      cases hx : lx ((c :: r).drop n) (p + n) with
      | error e' => rw [hx] at h; cases h
      | ok x =>
        rw [hx] at h; injection h with h; subst h
        obtain ⟨i, rfl⟩ := ih x hx
        have hl := tokAt_len ht
        exact ⟨⟨k, (c :: r).take n, v, p⟩ :: i, by rw [List.cons_append, List.length_drop, show p + n + ((c :: r).length - n) = p + (c :: r).length by omega]⟩
  exact this l p ts h
theorem lx_at_le {l : List UInt8} {p : Nat} {ts : List Tok} (h : lx l p = .ok ts) : ∀ t ∈ ts, t.at' ≤ p + l.length := by
  obtain ⟨i, rfl⟩ := lx_last h
  have hr := (lx_from h).2
  intro t ht
  rcases List.mem_append.1 ht with ht | ht
  · have := (List.pairwise_append.1 hr).2.2 t ht _ (List.mem_singleton.2 rfl)
    simp only at this; omega
  · rw [List.mem_singleton.1 ht]; exact Nat.le_refl _
theorem parse_syntax {l : List UInt8} {p : Nat} (h : parseS l = .error (p, 140)) : ∃ ts, lexS l = .ok ts ∧ progS ts = .error (p, 140) := by
  unfold parseS at h
  cases hl : lexS l with
  | error e =>
    rw [hl] at h
    injection h with h
    subst h
    rcases lx_codes (by rw [← lexS_lx]; exact hl) with h | h <;> simp at h
  | ok bs => rw [hl] at h; exact ⟨bs, rfl, h⟩
theorem endL_app {pre : List Tok} (h : ∀ u ∈ pre, u.kind ≠ 5) {post : List Tok} (hp : EndL post) : EndL (pre ++ post) := by
  induction pre with
  | nil => exact hp
  | cons x r ih => exact .more _ _ (h x (by simp)) (ih (fun u hu => h u (List.mem_cons_of_mem _ hu)))
theorem self_kind {t : Tok} (h : Self t) : t.kind ≠ 5 := by
  obtain ⟨c, r, _, _, h3⟩ := h
  exact tokAt_kind h3
theorem texts_pre {pre : List Tok} (h : ∀ t ∈ pre, Self t) : spellL pre = Lib.join (pre.map (·.text)) [32] := by
  unfold spellL texts
  rw [List.filter_eq_self.2 (fun t ht => self_good (h t ht))]
/-- Rows that are alike but for places. -/
theorem zip_alike {S : Nat → Nat → Prop} {ts us : List Tok} (h : tks us = tks ts) (hS : ∀ (i : Nat) (t u : Tok), ts[i]? = some t → us[i]? = some u → S t.at' u.at') : ZS S (ts.zip us) ∧ Z.l (ts.zip us) = ts ∧ Z.r (ts.zip us) = us := by
  have hl : us.length = ts.length := by have := congrArg List.length h; simpa [tks] using this
  refine ⟨?_, by simp [Z.l, List.map_fst_zip, hl], by simp [Z.r, List.map_snd_zip, hl]⟩
  intro p hp
  obtain ⟨i, hi⟩ := List.mem_iff_getElem?.1 hp
  rw [List.getElem?_zip_eq_some] at hi
  have := congrArg (·[i]?) h
  simp only [tks, List.getElem?_map, hi.1, hi.2, Option.map_some, Option.some.injEq] at this
  exact ⟨this.symm, hS i _ _ hi.1 hi.2⟩
/-- The same error, at the place that stands for its. -/
theorem prog_err_at (S : Nat → Nat → Prop) {ts us : List Tok} {p : Nat} {e : Int} (h : tks us = tks ts) (hS : ∀ (i : Nat) (t u : Tok), ts[i]? = some t → us[i]? = some u → S t.at' u.at') (he : EndL ts) (hp : progS ts = .error (p, e)) : ∃ q, progS us = .error (q, e) ∧ S p q := by
  obtain ⟨h1, h2, h3⟩ := zip_alike h hS
  rcases prog_sim h1 (by rw [h2]; exact he) with e1 | ⟨p', e', q, e1, e2, e3⟩ | ⟨x', y, e1, e2, e3⟩
  · rw [h2] at e1; exact absurd e1 (prog_fuel he)
  · rw [h2, hp] at e1
    injection e1 with e1
    injection e1 with a b
    subst a b
    rw [h3] at e2
    exact ⟨q, e2, e3⟩
  · rw [h2, hp] at e1; cases e1

theorem join_pre (a b : List (List UInt8)) (s : List UInt8) : (Lib.join a s).length ≤ (Lib.join (a ++ b) s).length := by
  cases a with
  | nil => rw [Lib.join_nil]; exact Nat.zero_le _
  | cons x r =>
    rw [List.cons_append, Lib.join_cons, Lib.join_cons, Lib.joinTail, Lib.joinTail, List.map_append, List.flatten_append]
    simp only [List.length_append]
    omega
theorem lx_text_le {l : List UInt8} {p : Nat} {ts : List Tok} (h : lx l p = .ok ts) : ∀ t ∈ ts, t.text.length ≤ l.length := by
  have : ∀ l p, ∀ ts, lx l p = .ok ts → ∀ t ∈ ts, t.text.length ≤ l.length := by
    refine lx_rec (fun p ts h => ?_) (fun c r p hb ih ts h => ?_) (fun c r p e' hb ht ts h => ?_) (fun c r p k n v hb ht ih ts h => ?_)
    · rw [lx_nil] at h; injection h with h; subst h; simp
    · rw [lx_blk hb] at h
      intro t ht
      have := ih ts h t ht
      rw [List.length_cons]; omega
    · rw [lx_err hb ht] at h; cases h
    · rw [lx_tok hb ht] at h
      cases hx : lx ((c :: r).drop n) (p + n) with
      | error e' => rw [hx] at h; cases h
      | ok x =>
        rw [hx] at h; injection h with h; subst h
        intro t htm
        rcases List.mem_cons.1 htm with rfl | htm
        · simp only [List.length_take]; omega
        · have := ih x hx t htm
          rw [List.length_drop] at this; omega
  exact this l p ts h

structure EndsT (src : List UInt8) (p : Nat) (pre : List Tok) (t : Tok) (post : List Tok) : Prop where
  le : p ≤ src.length
  lex : lexS src = .ok (pre ++ t :: post)
  at' : t.at' = p
  lt : ∀ u ∈ pre, u.at' < p
  self : ∀ u ∈ pre, Self u
  tok : t.kind = 5 ∨ Self t
  ahead : (∃ x, parseS (spellL pre) = .ok x) ∨ parseS (spellL pre) = .error ((spellL pre).length, 140)
  more : t.kind ≠ 5 → ∀ more us, lexS more = .ok us → parseS (spellL pre ++ 32 :: (t.text ++ 32 :: more)) = .error ((spellL pre).length + 1, 140)
  short : (spellL pre).length ≤ 2 * src.length
  len : t.text.length ≤ src.length

/-- THE ERROR'S TOKEN: the tokens ahead of it, and what comes behind. -/
theorem ends_law {src : List UInt8} {p : Nat} (h : parseS src = .error (p, 140)) : ∃ pre t post, EndsT src p pre t post := by
  obtain ⟨ts, hts, hpr⟩ := parse_syntax h
  have hend := lexS_end hts
  have hlx : lx src 0 = .ok ts := by rw [← lexS_lx]; exact hts
  have hrise : Rise ts := (lx_from hlx).2
  obtain ⟨pre, t, post, rfl, hat, _, herr⟩ := prog_err hend hrise hpr
  obtain ⟨inner, e0, hin, hself⟩ := lx_inner hlx
  have hr := List.pairwise_append.1 hrise
  have hlt : ∀ u ∈ pre, u.at' < p := fun u hu => by rw [← hat]; exact hr.2.2 u hu t (by simp)
  have hpt : (∀ u ∈ pre, Self u) ∧ (t.kind = 5 ∨ Self t) := by
    rcases List.eq_nil_or_concat post with rfl | ⟨post', z, rfl⟩
    · obtain ⟨h1, h2⟩ := List.append_inj' hin rfl
      injection h2 with h2 _
      exact ⟨by rw [h1]; exact hself, Or.inl (by rw [h2])⟩
    · have hin' : (pre ++ t :: post') ++ [z] = inner ++ [⟨5, [], 0, e0⟩] := by rw [← hin]; simp
      obtain ⟨h1, _⟩ := List.append_inj' hin' rfl
      exact ⟨fun u hu => hself u (by rw [← h1]; simp [hu]), Or.inr (hself t (by rw [← h1]; simp))⟩
  obtain ⟨hself', htok⟩ := hpt
  have hsp := texts_pre hself'
  obtain ⟨bs, hb1, hb2⟩ := respell pre hself' 0
  rw [← hsp] at hb1
  obtain ⟨bi, hbi⟩ := lx_last hb1
  rw [Nat.zero_add] at hbi
  have hbi2 : bi.map strip = pre.map strip := by
    rw [hbi, List.map_append] at hb2
    exact (List.append_inj' hb2 rfl).1
  have hbl : bi.length = pre.length := by have := congrArg List.length hbi2; simpa using this
  have hk5 : ∀ u ∈ pre, u.kind ≠ 5 := fun u hu => self_kind (hself' u hu)
  refine ⟨pre, t, post, ?_, hts, hat, hlt, hself', htok, ?_, ?_, ?_, ?_⟩
  · rw [← hat]; have := lx_at_le hlx t (by simp); omega
  · -- ahead
    have hc : Rise (pre ++ [⟨5, [], 0, p⟩]) := List.pairwise_append.2 ⟨hr.1, by simp, fun a ha b hb => by rw [List.mem_singleton.1 hb]; exact hlt a ha⟩
    have hec : EndL (pre ++ [⟨5, [], 0, p⟩]) := endL_app hk5 (.one _ rfl)
    have htk : tks bs = tks (pre ++ [⟨5, [], 0, p⟩]) := by
      show bs.map strip = (pre ++ [(⟨5, [], 0, p⟩ : Tok)]).map strip
      rw [hb2, List.map_append]; rfl
    rw [hat.symm] at hpr
    rcases prog_cut (c := ⟨5, [], 0, p⟩) hend hrise hpr rfl hc with ⟨x, hx⟩ | hx
    · obtain ⟨y, hy, _⟩ := prog_tks htk hec hx
      exact Or.inl ⟨y, parse_of hb1 hy⟩
    · obtain ⟨q, hq, hS⟩ := prog_err_at (fun a b => a = p → b = (spellL pre).length) htk (fun i u v hu hv hup => by
        by_cases hi : i < pre.length
        · rw [List.getElem?_append_left hi] at hu
          have := hlt u (List.mem_of_getElem? hu); omega
        · have hiv : i < bs.length := (List.getElem?_eq_some_iff.1 hv).1
          rw [hbi] at hiv hv
          rw [List.length_append, List.length_singleton, hbl] at hiv
          obtain rfl : i = pre.length := by omega
          rw [← hbl, List.getElem?_concat_length] at hv
          injection hv with hv
          rw [← hv]) hec hx
      refine Or.inr ?_
      unfold parseS
      rw [show lexS (spellL pre) = .ok bs from hb1]
      show progS bs = _
      rw [hq, hS rfl]
  · -- more
    intro h5 more us hus
    have hst : Self t := htok.resolve_left h5
    obtain ⟨ui, hui⟩ := lx_last (show lx more 0 = .ok us from hus)
    rw [Nat.zero_add] at hui
    obtain ⟨D, hD⟩ : ∃ D, D = (spellL pre).length + 1 := ⟨_, rfl⟩
    have hlm : lx more (D + t.text.length + 1) = .ok (us.map (shiftT (D + t.text.length + 1))) := by
      have := lx_shift (D + t.text.length + 1) more 0
      rw [Nat.zero_add] at this
      rw [this, show lx more 0 = .ok us from hus]; rfl
    have hl2 : lexS (spellL pre ++ 32 :: (t.text ++ 32 :: more)) = .ok (bi ++ ⟨t.kind, t.text, t.n, D⟩ :: us.map (shiftT (D + t.text.length + 1))) := by
      rw [lexS_lx, lx_more (by decide), hb1]
      simp only
      rw [Nat.zero_add, ← hD, lx_more (by decide), lx_self hst]
      simp only [hlm, mapOk, hbi, List.dropLast_concat]
      rfl
    have hue := lexS_end hus
    obtain ⟨post', hpo⟩ : ∃ q, q = us.map (shiftT (p + 1)) := ⟨_, rfl⟩
    have hmap : ∀ d, EndL (us.map (shiftT d)) := fun d => by
      clear hui hus hlm hl2 hpo
      induction hue with
      | one t h => exact .one _ h
      | more t r h _ ih => exact .more _ _ h ih
    have hpe : EndL (pre ++ t :: post') := endL_app hk5 (.more _ _ h5 (by rw [hpo]; exact hmap _))
    have htk : tks (bi ++ ⟨t.kind, t.text, t.n, D⟩ :: us.map (shiftT (D + t.text.length + 1))) = tks (pre ++ t :: post') := by
      show List.map strip _ = List.map strip _
      rw [List.map_append, List.map_append, hbi2, List.map_cons, List.map_cons, hpo, List.map_map, List.map_map]
      rfl
    obtain ⟨q, hq, hS⟩ := prog_err_at (fun a b => a = p → b = D) htk (fun i u v hu hv hup => by
      by_cases hi : i < pre.length
      · rw [List.getElem?_append_left hi] at hu
        have := hlt u (List.mem_of_getElem? hu); omega
      · rw [List.getElem?_append_right (by omega)] at hu
        rw [List.getElem?_append_right (by omega), hbl] at hv
        cases hj : i - pre.length with
        | zero => rw [hj] at hv; simp only [List.getElem?_cons_zero, Option.some.injEq] at hv; rw [← hv]
        | succ j =>
          rw [hj, List.getElem?_cons_succ, hpo] at hu
          obtain ⟨m, hm, rfl⟩ := List.mem_map.1 (List.mem_of_getElem? hu)
          exfalso
          have : (shiftT (p + 1) m).at' = m.at' + (p + 1) := rfl
          omega) hpe (herr post' hpe)
    unfold parseS
    rw [hl2]
    show progS _ = _
    rw [hq, hS rfl, hD]
  · have h1 := spell_short hts
    refine Nat.le_trans ?_ h1
    unfold spellL texts
    rw [List.filter_append, List.map_append]
    exact join_pre _ _ _
  · exact lx_text_le hlx t (by simp)
end Go.Proofs.YtkkeocnnecegbaaGreatDoor
