/- The plain law of a trace's text: which part is an event, how a text is cut into parts, and that reading undoes writing. No program in sight but the words for texts. By an AI agent. -/
import Derived.Test.YtadcegfdojocmaaDoorWalkF
import Derived.Test.YtadcegfdojocmaaDoorDigits
import Derived.Lib.ParseIntB
namespace Go.Proofs.YtadcegfdojocmaaDoor
open Go.RowKit

/-- The number that digits spell, behind a number. -/
def stepD (acc : Nat) (c : UInt8) : Nat := acc * 10 + (c.toNat - 48)
def foldD (acc : Nat) (l : List UInt8) : Nat := l.foldl stepD acc
def isDig (c : UInt8) : Prop := 48 ≤ c.toNat ∧ c.toNat ≤ 57
theorem foldD_le (l : List UInt8) : ∀ acc, acc ≤ foldD acc l := by
  induction l with
  | nil => intro acc; exact Nat.le_refl _
  | cons c r ih => intro acc; exact Nat.le_trans (by unfold stepD; omega) (ih (stepD acc c))
theorem foldD_snoc (l : List UInt8) (c : UInt8) (acc : Nat) : foldD acc (l ++ [c]) = foldD acc l * 10 + (c.toNat - 48) := by
  simp only [foldD, List.foldl_append, List.foldl_cons, List.foldl_nil, stepD]
theorem foldD_append (l r : List UInt8) (acc : Nat) : foldD acc (l ++ r) = foldD (foldD acc l) r := by
  simp only [foldD, List.foldl_append]
theorem foldD_cons (c : UInt8) (r : List UInt8) (acc : Nat) : foldD acc (c :: r) = foldD (stepD acc c) r := by simp only [foldD, List.foldl_cons]
theorem room10 (acc d M : Nat) (hM : M ≤ 18446744073709551615) (h1 : acc * 10 + d ≤ M) : acc < 1844674407370955162 := by omega
theorem parse_step (M : Nat) (hM : M ≤ 18446744073709551615) (c : UInt8) (r : List UInt8) (acc : Nat) (hc : 48 ≤ c.toNat ∧ c.toNat ≤ 57) (h1 : stepD acc c ≤ M) : Lib.parseUintM M acc (c :: r) = Lib.parseUintM M (stepD acc c) r := by
  unfold stepD at h1 ⊢
  have h2 := Nat.not_le_of_lt (room10 acc _ M hM h1)
  have h3 := Nat.not_lt_of_le h1
  conv => lhs; unfold Lib.parseUintM
  rw [if_pos hc, if_neg h2, if_neg h3]
theorem parseM (M : Nat) (hM : M ≤ 18446744073709551615) (l : List UInt8) : ∀ acc, (∀ c ∈ l, isDig c) → foldD acc l ≤ M → Lib.parseUintM M acc l = .ok (foldD acc l) := by
  have HM := Lib.hid hM
  clear hM
  induction l with
  | nil => intro acc _ _; rfl
  | cons c r ih =>
    intro acc hd hm
    have hc := hd c (by simp)
    rw [foldD_cons] at hm ⊢
    rw [parse_step M HM.out c r acc hc (Nat.le_trans (foldD_le r _) hm)]
    exact ih _ (fun x hx => hd x (by simp [hx])) hm
theorem toNat_dig {v : Nat} (h : v < 10) : (UInt8.ofNat (48 + v)).toNat = 48 + v := by
  rw [UInt8.toNat_ofNat']; omega
theorem dec_dig : ∀ (u : Nat), ∀ c ∈ Lib.decDigits u, isDig c := by
  intro u
  induction u using Nat.strongRecOn with
  | ind u ih =>
    intro c hc
    by_cases h : u < 10
    · rw [dec_low h] at hc
      obtain rfl := List.mem_singleton.1 hc
      unfold isDig; rw [toNat_dig h]; omega
    · rw [dec_high h] at hc
      rcases List.mem_append.1 hc with hc | hc
      · exact ih (u / 10) (by omega) c hc
      · obtain rfl := List.mem_singleton.1 hc
        have := Nat.mod_lt u (show 10 > 0 by omega)
        unfold isDig; rw [toNat_dig this]; omega
theorem fold_dec : ∀ (u : Nat), foldD 0 (Lib.decDigits u) = u := by
  intro u
  induction u using Nat.strongRecOn with
  | ind u ih =>
    by_cases h : u < 10
    · rw [dec_low h]; simp only [foldD, List.foldl_cons, List.foldl_nil, stepD]; rw [toNat_dig h]; omega
    · rw [dec_high h, foldD_snoc, ih (u / 10) (by omega), toNat_dig (Nat.mod_lt u (by omega))]; omega
theorem dec_ne (u : Nat) : Lib.decDigits u ≠ [] := by
  by_cases h : u < 10
  · rw [dec_low h]; simp
  · rw [dec_high h]; simp
/-- What fits into 64 bits. -/
def i64ok (n : Int) : Prop := -9223372036854775808 ≤ n ∧ n ≤ 9223372036854775807
theorem parse_itoa (n : Int) (h : i64ok n) : Lib.parseIntB 64 (Lib.itoa n) = .ok n := by
  unfold i64ok at h
  by_cases hn : n < 0
  · obtain ⟨u, rfl⟩ : ∃ u : Nat, n = -(u : Int) := ⟨n.natAbs, by omega⟩
    rw [Lib.itoa_neg u (by omega)]
    have hp : Lib.parseUintB 64 (Lib.decDigits u) = .ok u := by
      unfold Lib.parseUintB
      rw [if_neg (dec_ne u), parseM _ (by decide) _ 0 (dec_dig u) (by rw [fold_dec]; exact Nat.le_trans (show u ≤ 9223372036854775808 by omega) (by decide)), fold_dec]
    simp only [Lib.parseIntB]
    rw [if_pos (by decide), hp]
    simp only
    rw [if_neg (by simp), if_neg (by simp; omega), if_pos (by decide)]
  · obtain ⟨u, rfl⟩ := Int.eq_ofNat_of_zero_le (show 0 ≤ n by omega)
    rw [Lib.itoa_nonneg]
    have hp : Lib.parseUintB 64 (Lib.decDigits u) = .ok u := by
      unfold Lib.parseUintB
      rw [if_neg (dec_ne u), parseM _ (by decide) _ 0 (dec_dig u) (by rw [fold_dec]; exact Nat.le_trans (show u ≤ 9223372036854775808 by omega) (by decide)), fold_dec]
    cases hd : Lib.decDigits u with
    | nil => exact absurd hd (dec_ne u)
    | cons c r =>
      have hc := dec_dig u c (by rw [hd]; simp)
      unfold isDig at hc
      rw [hd] at hp
      simp only [Lib.parseIntB]
      rw [if_neg (by omega), hp]
      simp only
      rw [if_neg (by simp; omega), if_neg (by simp; omega), if_neg (by omega)]
theorem itoa_inj {a b : Int} (ha : i64ok a) (hb : i64ok b) (h : Lib.itoa a = Lib.itoa b) : a = b := by
  have h1 := parse_itoa a ha
  rw [h, parse_itoa b hb] at h1
  injection h1 with h1; exact h1.symm

/-- A part is an event of kind k and number n. -/
def isPart (p : List UInt8) (k : Nat) (n : Int) : Prop := 1 ≤ k ∧ k ≤ 4 ∧ i64ok n ∧ p = letterB k ++ Lib.itoa n
theorem letter_one {k : Nat} (h1 : 1 ≤ k) (h4 : k ≤ 4) : ∃ c, letterB k = [c] ∧ c.toNat ≠ 32 ∧ (k = 1 → c = 82) ∧ (k = 2 → c = 80) ∧ (k = 3 → c = 69) ∧ (k = 4 → c = 83) := by
  have : k = 1 ∨ k = 2 ∨ k = 3 ∨ k = 4 := by omega
  rcases this with rfl | rfl | rfl | rfl
  · exact ⟨82, by decide⟩
  · exact ⟨80, by decide⟩
  · exact ⟨69, by decide⟩
  · exact ⟨83, by decide⟩
theorem letter_inj {k k' : Nat} (h1 : 1 ≤ k) (h4 : k ≤ 4) (h1' : 1 ≤ k') (h4' : k' ≤ 4) (h : letterB k = letterB k') : k = k' := by
  have : k = 1 ∨ k = 2 ∨ k = 3 ∨ k = 4 := by omega
  have : k' = 1 ∨ k' = 2 ∨ k' = 3 ∨ k' = 4 := by omega
  revert h
  rcases ‹k = 1 ∨ _› with rfl | rfl | rfl | rfl <;> rcases ‹k' = 1 ∨ _› with rfl | rfl | rfl | rfl <;> decide
theorem isPart_inj {p : List UInt8} {k k' : Nat} {n n' : Int} (h : isPart p k n) (h' : isPart p k' n') : k = k' ∧ n = n' := by
  obtain ⟨a1, a2, a3, rfl⟩ := h
  obtain ⟨b1, b2, b3, he⟩ := h'
  obtain ⟨c, hc, _⟩ := letter_one a1 a2
  obtain ⟨d, hd, _⟩ := letter_one b1 b2
  rw [hc, hd] at he
  simp at he
  exact ⟨letter_inj a1 a2 b1 b2 (by rw [hc, hd, he.1]), itoa_inj a3 b3 he.2⟩
open Classical in
/-- A part's event, if it is one. -/
noncomputable def oneP (p : List UInt8) : Option (Nat × Int) := if h : ∃ x : Nat × Int, isPart p x.1 x.2 then some h.choose else none
theorem oneP_some {p : List UInt8} {k : Nat} {n : Int} (h : isPart p k n) : oneP p = some (k, n) := by
  unfold oneP
  have he : ∃ x : Nat × Int, isPart p x.1 x.2 := ⟨(k, n), h⟩
  rw [dif_pos he]
  obtain ⟨h1, h2⟩ := isPart_inj he.choose_spec h
  congr 1
  exact Prod.ext h1 h2
theorem oneP_none {p : List UInt8} (h : ∀ k n, ¬ isPart p k n) : oneP p = none := by
  unfold oneP; rw [dif_neg (fun ⟨x, hx⟩ => h _ _ hx)]
theorem oneP_of {p : List UInt8} {x : Nat × Int} (h : oneP p = some x) : isPart p x.1 x.2 := by
  unfold oneP at h
  split at h
  · rename_i he; injection h with h; rw [← h]; exact he.choose_spec
  · cases h
theorem oneP_nil : oneP [] = none := oneP_none fun k n ⟨h1, h4, _, h⟩ => by
  obtain ⟨c, hc, _⟩ := letter_one h1 h4
  rw [hc] at h; simp at h

/-- A text's parts. -/
def splitB : List UInt8 → List (List UInt8)
  | [] => [[]]
  | c :: r => if c = 32 then [] :: splitB r else match splitB r with
    | [] => [[c]]
    | x :: xs => (c :: x) :: xs
theorem splitB_ne (l : List UInt8) : splitB l ≠ [] := by
  cases l with
  | nil => simp [splitB]
  | cons c r => simp only [splitB]; split <;> (try split) <;> simp
theorem splitB_one (a : List UInt8) (h : (32 : UInt8) ∉ a) : splitB a = [a] := by
  induction a with
  | nil => rfl
  | cons c r ih =>
    simp only [List.mem_cons, not_or] at h
    simp only [splitB]
    rw [if_neg (fun e => h.1 e.symm), ih h.2]
theorem splitB_step (a r : List UInt8) (h : (32 : UInt8) ∉ a) : splitB (a ++ 32 :: r) = a :: splitB r := by
  induction a with
  | nil => simp [splitB]
  | cons c t ih =>
    simp only [List.mem_cons, not_or] at h
    simp only [List.cons_append, splitB]
    rw [if_neg (fun e => h.1 e.symm), ih h.2]
/-- The events of parts, if each is one. -/
noncomputable def parsL : List (List UInt8) → Option (List (Nat × Int))
  | [] => some []
  | p :: r => (oneP p).bind fun x => (parsL r).map (x :: ·)
/-- The trace that a text is. -/
noncomputable def pars (s : List UInt8) : Option (List (Nat × Int)) := if s = [] then some [] else parsL (splitB s)

theorem join_split (s : List UInt8) : Lib.join (splitB s) [32] = s := by
  induction s with
  | nil => rfl
  | cons c r ih =>
    simp only [splitB]
    by_cases hc : c = 32
    · rw [if_pos hc]
      cases hr : splitB r with
      | nil => exact absurd hr (splitB_ne r)
      | cons x xs =>
        rw [hr] at ih
        rw [Lib.join_cons]
        rw [Lib.join_cons] at ih
        have e : Lib.joinTail [32] (x :: xs) = 32 :: (x ++ Lib.joinTail [32] xs) := by simp [Lib.joinTail]
        rw [List.nil_append, e, ih, hc]
    · rw [if_neg hc]
      cases hr : splitB r with
      | nil => exact absurd hr (splitB_ne r)
      | cons x xs =>
        rw [hr] at ih
        simp only [Lib.join_cons] at ih ⊢
        simp [ih]
theorem split_join (L : List (List UInt8)) (h : L ≠ []) (hb : ∀ x ∈ L, (32 : UInt8) ∉ x) : splitB (Lib.join L [32]) = L := by
  induction L with
  | nil => exact absurd rfl h
  | cons x r ih =>
    cases r with
    | nil => rw [Lib.join_one]; exact splitB_one x (hb x (by simp))
    | cons y t =>
      have e : Lib.join (x :: y :: t) [32] = x ++ 32 :: Lib.join (y :: t) [32] := by
        rw [Lib.join_cons, Lib.join_cons]; simp [Lib.joinTail]
      rw [e, splitB_step x _ (hb x (by simp)), ih (by simp) (fun z hz => hb z (by simp [hz]))]

theorem itoa_no32 (n : Int) : (32 : UInt8) ∉ Lib.itoa n := by
  intro h
  by_cases hn : n < 0
  · obtain ⟨u, rfl⟩ : ∃ u : Nat, n = -(u : Int) := ⟨n.natAbs, by omega⟩
    rw [Lib.itoa_neg u (by omega)] at h
    rcases List.mem_cons.1 h with h | h
    · exact absurd h (by decide)
    · have := dec_dig u _ h; unfold isDig at this; simp at this
  · obtain ⟨u, rfl⟩ := Int.eq_ofNat_of_zero_le (show 0 ≤ n by omega)
    rw [Lib.itoa_nonneg] at h
    have := dec_dig u _ h; unfold isDig at this; simp at this
theorem isPart_no32 {p : List UInt8} {k : Nat} {n : Int} (h : isPart p k n) : (32 : UInt8) ∉ p := by
  obtain ⟨h1, h4, _, rfl⟩ := h
  obtain ⟨c, hc, h32, _⟩ := letter_one h1 h4
  rw [hc]
  intro hm
  rcases List.mem_append.1 hm with hm | hm
  · simp at hm; subst hm; exact h32 rfl
  · exact itoa_no32 n hm

/-- The events of a trace, as pairs. -/
def evL (n : Nat) (k m : Nat → Int) : List (Nat × Int) := (List.range n).map fun i => ((k i).toNat, m i)
theorem parsL_map (L : List (List UInt8)) (X : List (Nat × Int)) (h : L.length = X.length) (hp : ∀ (i : Nat) p x, L[i]? = some p → X[i]? = some x → isPart p x.1 x.2) : parsL L = some X := by
  induction L generalizing X with
  | nil => cases X with
    | nil => rfl
    | cons x r => simp at h
  | cons p r ih => cases X with
    | nil => simp at h
    | cons x t =>
      simp only [parsL]
      rw [oneP_some (hp 0 p x rfl rfl), ih t (by simpa using h) (fun i p' x' h1 h2 => hp (i + 1) p' x' (by simpa using h1) (by simpa using h2))]
      rfl
/-- Reading undoes writing. -/
theorem pars_text (n : Nat) (k m : Nat → Int) (hk : ∀ i, i < n → 1 ≤ k i ∧ k i ≤ 4) (hm : ∀ i, i < n → i64ok (m i)) : pars (textB n k m) = some (evL n k m) := by
  have hpart : ∀ i, i < n → isPart (evB (k i) (m i)) (k i).toNat (m i) := fun i hi => ⟨by have := hk i hi; omega, by have := hk i hi; omega, hm i hi, rfl⟩
  unfold pars
  cases n with
  | zero => rfl
  | succ n' =>
    have hne : textB (n' + 1) k m ≠ [] := by
      unfold textB
      rw [List.range_succ_eq_map, List.map_cons, Lib.join_cons]
      obtain ⟨h1, h4, _, e⟩ := hpart 0 (by omega)
      rw [e]
      obtain ⟨c, hc, _⟩ := letter_one h1 h4
      rw [hc]; simp
    rw [if_neg hne]
    unfold textB
    rw [split_join _ (by simp) (fun x hx => by
      obtain ⟨i, hi, rfl⟩ := List.mem_map.1 hx
      exact isPart_no32 (hpart i (List.mem_range.1 hi)))]
    refine parsL_map _ _ (by simp [evL]) (fun i p x h1 h2 => ?_)
    have hi : i < n' + 1 := by have := (List.getElem?_eq_some_iff.1 h1).1; simpa using this
    simp [evL, hi] at h1 h2
    subst h1; subst h2
    exact hpart i hi
theorem parsL_join (L : List (List UInt8)) : ∀ X, parsL L = some X → L = X.map fun x => evB x.1 x.2 := by
  induction L with
  | nil => intro X h; simp [parsL] at h; subst h; rfl
  | cons p r ih =>
    intro X h
    simp only [parsL] at h
    cases ho : oneP p with
    | none => rw [ho] at h; simp at h
    | some x =>
      rw [ho] at h
      cases hr : parsL r with
      | none => rw [hr] at h; simp at h
      | some t =>
        rw [hr] at h; simp at h; subst h
        have hx := oneP_of ho
        rw [List.map_cons, ← ih t hr]
        congr 1
        obtain ⟨_, _, _, e⟩ := hx
        rw [e]; simp [evB]
theorem parsL_good (L : List (List UInt8)) : ∀ X, parsL L = some X → ∀ x ∈ X, 1 ≤ x.1 ∧ x.1 ≤ 4 ∧ i64ok x.2 := by
  induction L with
  | nil => intro X h; simp [parsL] at h; subst h; simp
  | cons p r ih =>
    intro X h
    simp only [parsL] at h
    cases ho : oneP p with
    | none => rw [ho] at h; simp at h
    | some x =>
      rw [ho] at h
      cases hr : parsL r with
      | none => rw [hr] at h; simp at h
      | some t =>
        rw [hr] at h; simp at h; subst h
        obtain ⟨a, b, c, _⟩ := oneP_of ho
        intro y hy
        rcases List.mem_cons.1 hy with rfl | hy
        · exact ⟨a, b, c⟩
        · exact ih t hr y hy
/-- The kinds and the numbers of a list of events. -/
def kOf (X : List (Nat × Int)) : Nat → Int := fun i => ((X[i]?.getD (0, 0)).1 : Int)
def mOf (X : List (Nat × Int)) : Nat → Int := fun i => (X[i]?.getD (0, 0)).2
/-- What a text is read as has just that text. -/
theorem text_pars (s : List UInt8) (X : List (Nat × Int)) (h : pars s = some X) : textB X.length (kOf X) (mOf X) = s := by
  have hmap : (List.range X.length).map (fun i => evB (kOf X i) (mOf X i)) = X.map fun x => evB x.1 x.2 := by
    apply List.ext_getElem
    · simp
    · intro i h1 h2
      have hi : i < X.length := by simpa using h1
      simp [kOf, mOf, hi]
  unfold textB
  rw [hmap]
  unfold pars at h
  by_cases hs : s = []
  · rw [if_pos hs] at h; injection h with h; subst h; rw [hs]; rfl
  · rw [if_neg hs] at h
    rw [← parsL_join _ _ h, join_split]
theorem pars_good (s : List UInt8) (X : List (Nat × Int)) (h : pars s = some X) : ∀ i, i < X.length → 1 ≤ kOf X i ∧ kOf X i ≤ 4 ∧ i64ok (mOf X i) := by
  unfold pars at h
  by_cases hs : s = []
  · rw [if_pos hs] at h; injection h with h; subst h; intro i hi; simp at hi
  · rw [if_neg hs] at h
    intro i hi
    obtain ⟨a, b, c⟩ := parsL_good _ _ h X[i] (List.getElem_mem hi)
    simp only [kOf, mOf, List.getElem?_eq_getElem hi, Option.getD_some]
    exact ⟨by omega, by omega, c⟩
end Go.Proofs.YtadcegfdojocmaaDoor
