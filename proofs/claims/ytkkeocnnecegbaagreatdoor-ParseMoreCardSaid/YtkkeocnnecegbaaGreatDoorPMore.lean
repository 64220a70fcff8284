/- Plain law of parse: two sources, one behind the other, have the parts of the first one, then those of the second one. By an AI agent. -/
import Derived.Test.YtkkeocnnecegbaaGreatDoorJB
import Derived.Test.YtkkeocnnecegbaaGreatDoorMore
namespace Go.Proofs.YtkkeocnnecegbaaGreatDoor

theorem mapOk_id {ε α : Type} {g : α → α} (hg : ∀ a, g a = a) (x : Except ε α) : mapOk g x = x := by
  cases x with
  | error e => rfl
  | ok a => show Except.ok (g a) = _; rw [hg]
theorem mapOk_comp {ε α β γ : Type} (g : β → γ) (h : α → β) (x : Except ε α) : mapOk g (mapOk h x) = mapOk (fun a => g (h a)) x := by cases x <;> rfl
theorem parts_acc : ∀ (f : Nat) (acc : List Item) (ts : List Tok), partsS f acc ts = mapOk (acc ++ ·) (partsS f [] ts)
  | 0, acc, ts => by unfold partsS; rfl
  | f + 1, acc, ts => by
    by_cases hk : nowKind ts = 5
    · unfold partsS; rw [if_pos hk, if_pos hk]; show Except.ok acc = Except.ok (acc ++ []); rw [List.append_nil]
    · rw [parts_step f acc ts hk, parts_step f [] ts hk]
      cases partS f ts with
      | error e => rfl
      | ok v =>
        obtain ⟨x, r⟩ := v
        simp only []
        rw [parts_acc f (acc ++ [x]) r, parts_acc f ([] ++ [x]) r, mapOk_comp]
        congr 1
        funext a
        simp
theorem EndL.first {t : Tok} {r : List Tok} (h : EndL (t :: r)) (hr : r ≠ []) : t.kind ≠ 5 ∧ EndL r := by
  cases h with
  | one _ _ => exact absurd rfl hr
  | more _ _ h1 h2 => exact ⟨h1, h2⟩
/-- Parts behind parts. -/
theorem parts_app : ∀ (f : Nat) (acc : List Item) (a : List Tok) (c : Tok) (l : List Item), c.kind = 5 → EndL (a ++ [c]) → partsS f acc (a ++ [c]) = .ok l →
    ∃ k, k ≤ a.length ∧ k < f ∧ ∀ rest, partsS f acc (a ++ rest) = partsS (f - k) l rest
  | 0, acc, a, c, l, _, _, h => by unfold partsS at h; cases h
  | f + 1, acc, a, c, l, hc, he, h => by
    cases a with
    | nil =>
      have hk : nowKind ([] ++ [c]) = 5 := hc
      unfold partsS at h
      rw [if_pos hk] at h
      injection h with h
      subst h
      exact ⟨0, Nat.le_refl _, by omega, fun rest => rfl⟩
    | cons t a =>
      have ht : t.kind ≠ 5 := (EndL.first (t := t) (r := a ++ [c]) he (by simp)).1
      have hk : nowKind (t :: a ++ [c]) ≠ 5 := ht
      rw [parts_step f acc _ hk] at h
      rcases part_locF (f := f) he with e1 | ⟨pre, u, post, e, e1, e2, e3⟩ | ⟨x, d, r, e0, e1, e2⟩
      · rw [e1] at h; cases h
      · rw [e1, e3] at h; cases h
      · rw [e1, e2] at h
        simp only [] at h
        have hr : EndL r ∧ r.length < (t :: a ++ [c]).length := part_ok he (by rw [e1]; exact e2 r)
        obtain ⟨r', z, rfl⟩ : ∃ r' z, r = r' ++ [z] := by
          rcases List.eq_nil_or_concat r with rfl | ⟨r', z, rfl⟩
          · exact absurd rfl hr.1.ne
          · exact ⟨r', z, List.concat_eq_append ..⟩
        rw [← List.append_assoc] at e1
        obtain ⟨e3, e4⟩ := List.append_inj' e1 rfl
        injection e4 with e4 _
        subst e4
        obtain ⟨k, k1, k2, k3⟩ := parts_app f (acc ++ [x]) r' c l hc hr.1 h
        refine ⟨k + 1, ?_, by omega, fun rest => ?_⟩
        · have := congrArg List.length e3
          rw [List.length_append] at this
          have hd : 0 < d.length := List.length_pos_iff.2 e0
          omega
        · have hk' : nowKind (t :: a ++ rest) ≠ 5 := ht
          rw [parts_step f acc _ hk', e3, List.append_assoc, e2]
          simp only []
          rw [k3, Nat.add_sub_add_right]

mutual
/-- An item as much later. -/
theorem flat_shift {d : Nat} : ∀ {x y : Item} (o b : Nat), SimI (fun p q => q = p + d) x y → flat (o + b) y = (flat o x).map (fun m => ⟨m.kind, m.text, m.n, m.at' + d, m.kids.map (· + b)⟩)
  | _, _, o, b, .mk k t n a a' ks ls h h2 => by
    obtain ⟨h3, h4⟩ := flatL_shift (o + 1) b h2
    subst h
    simp only [flat, List.map_cons]
    rw [show o + b + 1 = o + 1 + b by omega, h3, h4]
theorem flatL_shift {d : Nat} : ∀ {x y : List Item} (o b : Nat), SimL (fun p q => q = p + d) x y → flatL (o + b) y = (flatL o x).map (fun m => ⟨m.kind, m.text, m.n, m.at' + d, m.kids.map (· + b)⟩) ∧ offs (o + b) y = (offs o x).map (· + b)
  | _, _, o, b, .nil => ⟨rfl, rfl⟩
  | _, _, o, b, .cons x y xs ys h h2 => by
    have hs := sizeI_sim h
    obtain ⟨h3, h4⟩ := flatL_shift (o + sizeI x) b h2
    refine ⟨?_, ?_⟩
    · simp only [flatL, List.map_append]
      rw [flat_shift o b h, ← hs, show o + b + sizeI x = o + sizeI x + b by omega, h3]
    · simp only [offs, List.map_cons]
      rw [← hs, show o + b + sizeI x = o + sizeI x + b by omega, h4]
theorem sizeI_sim {S : Nat → Nat → Prop} : ∀ {x y : Item}, SimI S x y → sizeI x = sizeI y
  | _, _, .mk _ _ _ _ _ _ _ _ h => by simp only [sizeI]; rw [sizeL_sim h]
theorem sizeL_sim {S : Nat → Nat → Prop} : ∀ {x y : List Item}, SimL S x y → sizeL x = sizeL y
  | _, _, .nil => rfl
  | _, _, .cons _ _ _ _ h h2 => by simp only [sizeL]; rw [sizeI_sim h, sizeL_sim h2]
end
def laterZ (d : Nat) (ts : List Tok) : Z := ts.map (fun t => (t, shiftT d t))
theorem laterZ_l (d : Nat) (ts : List Tok) : Z.l (laterZ d ts) = ts := by simp [Z.l, laterZ, Function.comp_def]
theorem laterZ_r (d : Nat) (ts : List Tok) : Z.r (laterZ d ts) = ts.map (shiftT d) := by simp [Z.r, laterZ, Function.comp_def]
theorem laterZ_zs (d : Nat) (ts : List Tok) : ZS (fun p q => q = p + d) (laterZ d ts) := by
  intro p hp
  simp only [laterZ, List.mem_map] at hp
  obtain ⟨t, _, rfl⟩ := hp
  exact ⟨rfl, rfl⟩
/-- TWO PROGRAMS, ONE BEHIND THE OTHER. -/
theorem prog_app {a b : List Tok} {c : Tok} {d : Nat} {x y : Item} (hc : c.kind = 5) (ha : EndL (a ++ [c])) (hb : EndL b) (h1 : progS (a ++ [c]) = .ok x) (h2 : progS b = .ok y) :
    ∃ p l q m m' r, x = .mk 1 [] 0 p l ∧ y = .mk 1 [] 0 q m ∧ SimL (fun p q => q = p + d) m m' ∧ progS (a ++ b.map (shiftT d)) = .ok (.mk 1 [] 0 r (l ++ m')) := by
  unfold progS at h1 h2
  cases e1 : partsS (16 * (a ++ [c]).length + 16) [] (a ++ [c]) with
  | error e => rw [e1] at h1; cases h1
  | ok l =>
    rw [e1] at h1
    injection h1 with h1
    cases e2 : partsS (16 * b.length + 16) [] b with
    | error e => rw [e2] at h2; cases h2
    | ok m =>
      rw [e2] at h2
      injection h2 with h2
      have g1 : partsS (16 * (a ++ b.map (shiftT d)).length + 16) [] (a ++ [c]) = .ok l := by
        have hbl : 1 ≤ b.length := List.length_pos_iff.2 hb.ne
        rw [parts_more (f := 16 * (a ++ [c]).length + 16) (by simp only [List.length_append, List.length_map, List.length_singleton]; omega) ha (by rw [e1]; intro h; cases h), e1]
      obtain ⟨k, k1, k2, k3⟩ := parts_app _ [] a c l hc ha g1
      have k4 := k3 (b.map (shiftT d))
      have sim := parts_sim (S := fun p q => q = p + d) (16 * b.length + 16) (16 * (a ++ b.map (shiftT d)).length + 16 - k) [] [] (laterZ d b) (by simp only [List.length_append, List.length_map]; omega) (laterZ_zs d b) (by rw [laterZ_l]; exact hb) .nil
      rw [laterZ_l, laterZ_r, e2] at sim
      rcases sim with s1 | ⟨p, e, q, s1, s2, s3⟩ | ⟨u, v, s1, s2, s3⟩
      · cases s1
      · cases s1
      · injection s1 with s1
        subst s1
        refine ⟨_, l, _, m, v, nowAt (a ++ b.map (shiftT d)), h1.symm, h2.symm, s3, ?_⟩
        unfold progS
        rw [k4, parts_acc, s2]
        rfl
end Go.Proofs.YtkkeocnnecegbaaGreatDoor
