/- Plain laws for the walk over Lex: which kind is the longest; numbers; the tokens' cells. By an AI agent. -/
import Derived.Test.YtkkeocnnecegbaaGreatDoorWalkD
import Derived.Laws.IdiomStrings
import Derived.Laws.BytesArg
namespace Go.Proofs.YtkkeocnnecegbaaGreatDoor
open Go.RowKit

theorem let_not_dig {c : UInt8} (h : isLet c = true) : isDig c = false := by
  rw [isLet_int] at h; rw [isDig_int]
  simp only [Bool.or_eq_true, Bool.and_eq_true, decide_eq_true_eq] at h
  rw [Bool.and_eq_false_iff]
  simp only [decide_eq_false_iff_not]
  omega
theorem mark_head {c : UInt8} {r : List UInt8} (h : isLet c = true ∨ isDig c = true) : markLen (c :: r) = 0 := by
  have h1 : ¬ c ∈ markL := by
    intro hm
    simp only [markL, List.mem_cons, List.not_mem_nil, or_false] at hm
    rcases h with h | h <;>
    · rcases hm with rfl | rfl | rfl | rfl | rfl | rfl | rfl | rfl | rfl | rfl | rfl | rfl | rfl | rfl | rfl | rfl | rfl | rfl | rfl <;> exact absurd h (by decide)
  have h2 : ∀ l : List UInt8, ¬ (c :: l) ∈ mark2L := by
    intro l hm
    simp only [mark2L, List.mem_cons, List.not_mem_nil, or_false, List.cons.injEq] at hm
    rcases hm with ⟨rfl, _⟩ | ⟨rfl, _⟩ | ⟨rfl, _⟩ | ⟨rfl, _⟩ | ⟨rfl, _⟩ <;> exact absurd h (by decide)
  have h3 : ∀ l : List UInt8, isMarkS (c :: l) = false := by
    intro l
    unfold isMarkS
    simp only [h2 l, decide_false, Bool.false_or]
    split
    · rename_i c' e; injection e with e1 e2; subst e1; simp [h1]
    · rfl
  unfold markLen
  cases r with
  | nil => simp [h3]
  | cons d r => simp [h3]

theorem max5 (a b c : Nat) : Lib.maxOf (([0, (a : Int), 0, (b : Int), (c : Int)] : List Int).take 5) = ((max a (max b c) : Nat) : Int) := by
  simp [Lib.maxOf]
  omega
theorem idx1 (a : Nat) (h : 0 < a) : Lib.idxOf (([0, (a : Int), 0, ((0 : Nat) : Int), ((0 : Nat) : Int)] : List Int).take 5) (a : Int) = 1 := by
  have h1 : ¬ (0 : Int) = a := by omega
  simp [Lib.idxOf, Lib.idxFrom, h1]
theorem idx3 (a : Nat) (h : 0 < a) : Lib.idxOf (([0, ((0 : Nat) : Int), 0, (a : Int), ((0 : Nat) : Int)] : List Int).take 5) (a : Int) = 3 := by
  have h1 : ¬ (0 : Int) = a := by omega
  simp [Lib.idxOf, Lib.idxFrom, h1]
theorem idx4 (a : Nat) (h : 0 < a) : Lib.idxOf (([0, ((0 : Nat) : Int), 0, ((0 : Nat) : Int), (a : Int)] : List Int).take 5) (a : Int) = 4 := by
  have h1 : ¬ (0 : Int) = a := by omega
  simp [Lib.idxOf, Lib.idxFrom, h1]
theorem idx0 (b c : Int) : Lib.idxOf (([0, b, 0, 0, c] : List Int).take 5) 0 = 0 := by
  simp [Lib.idxOf, Lib.idxFrom]

/-- The kind that is chosen, and how long it is, of a row that is not empty. -/
def pick (l : List UInt8) : Nat × Nat := match l with
  | [] => (0, 0)
  | c :: _ => if isLet c then (1, manyS isWd l) else if isDig c then (3, manyS isDig l) else if markLen l = 0 then (0, 0) else (4, markLen l)

def lens (l : List UInt8) : List Int := [0, (nWord l : Int), 0, (manyS isDig l : Int), (markLen l : Int)]

theorem pick_law (l : List UInt8) (h : l ≠ []) : Lib.maxOf ((lens l).take 5) = ((pick l).2 : Int) ∧ Lib.idxOf ((lens l).take 5) ((pick l).2 : Int) = ((pick l).1 : Int) ∧ (pick l).1 < 5 ∧ (lens l).getD (pick l).1 0 = ((pick l).2 : Int) ∧ (pick l).2 ≤ l.length := by
  match l, h with
  | c :: r, _ =>
    unfold lens
    rw [max5]
    have hle := manyS_le isWd (c :: r)
    have hle2 := manyS_le isDig (c :: r)
    have hle3 := markLen_le (c :: r)
    cases h1 : isLet c
    · cases h2 : isDig c
      · have hn : nWord (c :: r) = 0 := by simp [nWord, h1]
        have hd : manyS isDig (c :: r) = 0 := manyS_zero h2
        rw [hn, hd]
        by_cases h3 : markLen (c :: r) = 0
        · have hp : pick (c :: r) = (0, 0) := by simp [pick, h1, h2, h3]
          rw [hp, h3]
          exact ⟨rfl, idx0 _ _, by decide, rfl, Nat.zero_le _⟩
        · have hp : pick (c :: r) = (4, markLen (c :: r)) := by simp [pick, h1, h2, h3]
          rw [hp]
          exact ⟨by simp, idx4 _ (by omega), (by show 4 < 5; omega), rfl, hle3⟩
      · have hn : nWord (c :: r) = 0 := by simp [nWord, h1]
        have hm := mark_head (r := r) (Or.inr h2)
        have hpos : 0 < manyS isDig (c :: r) := manyS_pos h2
        have hp : pick (c :: r) = (3, manyS isDig (c :: r)) := by simp [pick, h1, h2]
        rw [hn, hm, hp]
        exact ⟨by simp, idx3 _ hpos, (by show 3 < 5; omega), rfl, hle2⟩
    · have hn : nWord (c :: r) = manyS isWd (c :: r) := by simp [nWord, h1]
      have hm := mark_head (r := r) (Or.inl h1)
      have hd : manyS isDig (c :: r) = 0 := manyS_zero (let_not_dig h1)
      have hpos : 0 < manyS isWd (c :: r) := manyS_pos (by simp [isWd, h1])
      have hp : pick (c :: r) = (1, manyS isWd (c :: r)) := by simp [pick, h1]
      rw [hn, hm, hd, hp]
      exact ⟨by simp, idx1 _ hpos, (by show 1 < 5; omega), rfl, hle⟩

theorem manyS_take {p : UInt8 → Bool} {r : List UInt8} : ∀ c ∈ r.take (manyS p r), p c = true := by
  intro c hc
  have : r.take (manyS p r) = r.takeWhile p := by
    unfold manyS
    exact (List.prefix_iff_eq_take.1 (List.takeWhile_prefix p)).symm
  rw [this] at hc
  exact List.all_eq_true.1 (List.all_takeWhile) c hc

/-- A row of digits is no fault of syntax. -/
theorem uint_digits (M acc : Nat) (l : List UInt8) (h : ∀ c ∈ l, isDig c = true) : Lib.parseUintM M acc l ≠ Lib.NumEnd.syntax := by
  induction l generalizing acc with
  | nil => simp [Lib.parseUintM]
  | cons c r ih =>
    have hc := h c (by simp)
    rw [isDig_int] at hc
    simp only [Bool.and_eq_true, decide_eq_true_eq] at hc
    have h1 : 48 ≤ c.toNat ∧ c.toNat ≤ 57 := by omega
    simp only [Lib.parseUintM, if_pos h1]
    split
    · simp
    · split
      · simp
      · exact ih _ (fun d hd => h d (by simp [hd]))

theorem word_let {l : List UInt8} (h : isWordS l = true) : ∃ c r, l = c :: r ∧ isLet c = true := by
  have h' : l ∈ wordL := of_decide_eq_true h
  simp only [wordL, List.mem_cons, List.not_mem_nil, or_false] at h'
  rcases h' with rfl | rfl | rfl | rfl | rfl | rfl | rfl | rfl | rfl | rfl <;> exact ⟨_, _, rfl, by decide⟩

/-- What token stands at the beginning, by the kind that is chosen. -/
theorem tok_law (c : UInt8) (r : List UInt8) : ((pick (c :: r)).2 = 0 → tokAt (c :: r) = .error 130) ∧
    (0 < (pick (c :: r)).2 → isWordS ((c :: r).take (pick (c :: r)).2) = true → tokAt (c :: r) = .ok (2, (pick (c :: r)).2, 0)) ∧
    (0 < (pick (c :: r)).2 → isWordS ((c :: r).take (pick (c :: r)).2) = false → (pick (c :: r)).1 ≠ 3 → tokAt (c :: r) = .ok ((pick (c :: r)).1, (pick (c :: r)).2, 0)) ∧
    (0 < (pick (c :: r)).2 → (pick (c :: r)).1 = 3 → (∀ d ∈ (c :: r).take (pick (c :: r)).2, isDig d = true) ∧ tokAt (c :: r) = match numS ((c :: r).take (pick (c :: r)).2) with | some v => .ok (3, (pick (c :: r)).2, v) | none => .error 131) := by
  have hw : isWd = fun c => isLet c || isDig c := rfl
  cases h1 : isLet c
  · cases h2 : isDig c
    · by_cases h3 : markLen (c :: r) = 0
      · have hp : pick (c :: r) = (0, 0) := by simp [pick, h1, h2, h3]
        rw [hp]
        exact ⟨fun _ => by simp [tokAt, h1, h2, h3], fun h => absurd h (Nat.lt_irrefl _), fun h => absurd h (Nat.lt_irrefl _), fun h => absurd h (Nat.lt_irrefl _)⟩
      · have hp : pick (c :: r) = (4, markLen (c :: r)) := by simp [pick, h1, h2, h3]
        rw [hp]
        refine ⟨fun h => absurd h h3, fun h hW => ?_, fun _ _ _ => by simp [tokAt, h1, h2, h3], fun _ h => by simp at h⟩
        obtain ⟨d, r', e, hd⟩ := word_let hW
        have : d = c := by
          have h' := congrArg List.head? e
          rw [List.head?_take] at h'
          simp [h3] at h'
          exact h'.symm
        rw [this, h1] at hd; cases hd
    · have hp : pick (c :: r) = (3, manyS isDig (c :: r)) := by simp [pick, h1, h2]
      have hpos : 0 < manyS isDig (c :: r) := manyS_pos h2
      rw [hp]
      refine ⟨fun h => absurd h (by show manyS isDig (c :: r) ≠ 0; omega), fun h hW => ?_, fun _ _ h => absurd rfl h, fun _ _ => ⟨manyS_take, by simp only [tokAt, h1, h2, if_true]; rfl⟩⟩
      obtain ⟨d, r', e, hd⟩ := word_let hW
      have : d = c := by
        have h' := congrArg List.head? e
        rw [List.head?_take, if_neg (show ¬ manyS isDig (c :: r) = 0 by omega)] at h'
        simp at h'
        exact h'.symm
      rw [this, h1] at hd; cases hd
  · have hp : pick (c :: r) = (1, manyS isWd (c :: r)) := by simp [pick, h1]
    have hpos : 0 < manyS isWd (c :: r) := manyS_pos (by simp [isWd, h1])
    rw [hp]
    refine ⟨fun h => absurd h (by show manyS isWd (c :: r) ≠ 0; omega), fun _ hW => ?_, fun _ hW _ => ?_, fun _ h => by simp at h⟩
    · simp only at hW
      rw [hw] at hW ⊢
      simp only [tokAt, h1, if_true, hW]
    · simp only at hW
      rw [hw] at hW ⊢
      simp only [tokAt, h1, if_true, hW]
      rfl

theorem lex_blk {l : List UInt8} {p f : Nat} {acc : List Tok} {c : UInt8} {r : List UInt8} {R : Except (Nat × Int) (List Tok)} (hd : l.drop p = c :: r) (hf : l.length - p ≤ f) (hlt : p < l.length) (hb : isBlk c = true) (h : lexFrom f (l.drop p) p acc = R) :
    ∃ f', l.length - (p + 1) ≤ f' ∧ lexFrom f' (l.drop (p + 1)) (p + 1) acc = R := by
  obtain ⟨f', rfl⟩ : ∃ f', f = f' + 1 := ⟨f - 1, by omega⟩
  refine ⟨f', by omega, ?_⟩
  rw [hd, lexFrom, if_pos hb] at h
  have : l.drop (p + 1) = r := by rw [← List.drop_drop, hd]; rfl
  rw [this]; exact h
theorem lex_tok {l : List UInt8} {p f : Nat} {acc : List Tok} {c : UInt8} {r : List UInt8} {R : Except (Nat × Int) (List Tok)} {k N : Nat} {v : Int} (hd : l.drop p = c :: r) (hf : l.length - p ≤ f) (hlt : p < l.length) (hb : isBlk c = false) (hN : 0 < N) (ht : tokAt (c :: r) = .ok (k, N, v)) (h : lexFrom f (l.drop p) p acc = R) :
    ∃ f', l.length - (p + N) ≤ f' ∧ lexFrom f' (l.drop (p + N)) (p + N) (acc ++ [⟨k, (l.drop p).take N, v, p⟩]) = R := by
  obtain ⟨f', rfl⟩ : ∃ f', f = f' + 1 := ⟨f - 1, by omega⟩
  refine ⟨f', by omega, ?_⟩
  rw [hd, lexFrom, if_neg (by simp [hb]), ht] at h
  rw [← List.drop_drop, hd]; exact h
theorem lex_err {l : List UInt8} {p f : Nat} {acc : List Tok} {c : UInt8} {r : List UInt8} {R : Except (Nat × Int) (List Tok)} {e : Int} (hd : l.drop p = c :: r) (hf : l.length - p ≤ f) (hlt : p < l.length) (hb : isBlk c = false) (ht : tokAt (c :: r) = .error e) (h : lexFrom f (l.drop p) p acc = R) :
    R = .error (p, e) := by
  obtain ⟨f', rfl⟩ : ∃ f', f = f' + 1 := ⟨f - 1, by omega⟩
  rw [hd, lexFrom, if_neg (by simp [hb]), ht] at h
  exact h.symm
theorem lex_end {l : List UInt8} {p f : Nat} {acc : List Tok} {R : Except (Nat × Int) (List Tok)} (hp : l.length ≤ p) (h : lexFrom f (l.drop p) p acc = R) : R = .ok (acc ++ [⟨5, [], 0, p⟩]) := by
  rw [List.drop_eq_nil_of_le hp] at h
  cases f <;> exact h.symm

/-- The cells of a token. -/
def tokV (t : Tok) : List Value := [.int .u8 t.kind, .string ⟨t.text.toArray⟩, .int .i64 t.n, .int .i64 t.at']
def tokCells (l : List Tok) : List Value := l.flatMap tokV
theorem tokCells_len (l : List Tok) : (tokCells l).length = l.length * 4 := by
  induction l with
  | nil => rfl
  | cons t l ih => simp only [tokCells, List.flatMap_cons, List.length_append] at ih ⊢; rw [ih]; simp [tokV]; omega
theorem tokCells_snoc (l : List Tok) (t : Tok) : tokCells (l ++ [t]) = tokCells l ++ tokV t := by simp [tokCells]
theorem tokCells_at (l : List Tok) (i : Nat) (h : i < l.length) : (tokCells l)[i * 4]? = some (.int .u8 l[i].kind) ∧ (tokCells l)[i * 4 + 1]? = some (.string ⟨l[i].text.toArray⟩) ∧ (tokCells l)[i * 4 + 2]? = some (.int .i64 l[i].n) ∧ (tokCells l)[i * 4 + 3]? = some (.int .i64 l[i].at') := by
  induction l generalizing i with
  | nil => simp at h
  | cons t l ih =>
    cases i with
    | zero => exact ⟨rfl, rfl, rfl, rfl⟩
    | succ i =>
      have h' : i < l.length := by simpa using h
      obtain ⟨a, b, c, d⟩ := ih i h'
      have e : tokCells (t :: l) = tokV t ++ tokCells l := by simp [tokCells]
      have hs (k : Nat) : (tokCells (t :: l))[(i + 1) * 4 + k]? = (tokCells l)[i * 4 + k]? := by
        rw [e, List.getElem?_append_right (by simp [tokV]; omega)]
        congr 1
        simp [tokV]; omega
      have h0 := hs 0
      simp only [Nat.add_zero] at h0
      refine ⟨h0.trans a, (hs 1).trans b, (hs 2).trans c, (hs 3).trans d⟩

/-- A slice's address reads as a row of bytes. -/
def BytS (w : World) (a : Option Addr) (l : List UInt8) : Prop := (l = [] ∧ True) ∨ ∃ b o, a = some ⟨b, o, none⟩ ∧ ∀ i (h : i < l.length), w.cell? ⟨b, o + i, none⟩ = some (.int .u8 l[i].toNat)
theorem BytS.below {w w' : World} {a : Option Addr} {l : List UInt8} (h : BytS w a l) (hb : Below w.heap.size w w') : BytS w' a l := by
  rcases h with h | ⟨b, o, e, h⟩
  · exact Or.inl h
  · exact Or.inr ⟨b, o, e, fun i hi => (hb.cell (p := ⟨b, o + i, none⟩) (cell_lt' (h i hi))).trans (h i hi)⟩
theorem BytS.conv {w : World} {a : Option Addr} {l : List UInt8} (h : BytS w a l) (c : Nat) : (convert 30 9 (.slice a l.length c)).run Tryz.prog w = .ok (.string ⟨l.toArray⟩) w := by
  rcases h with ⟨rfl, _⟩ | ⟨b, o, rfl, h⟩
  · cases a with
    | none => exact run_convert_bytes_nil w 30 5 Tryz.underlying30 Tryz.underlying5 0 c 9 Tryz.underlying9
    | some a => exact run_convert_bytes_back w 30 9 5 a c [] Tryz.underlying30 Tryz.underlying5 Tryz.underlying9 (fun j hj => absurd hj (Nat.not_lt_zero _))
  · exact run_convert_bytes_back w 30 9 5 _ c l Tryz.underlying30 Tryz.underlying5 Tryz.underlying9 (fun j hj => by
      have e : (⟨b, o, none⟩ : Addr).add j = ⟨b, o + j, none⟩ := by unfold Addr.add; split <;> simp_all
      rw [e]; exact h j hj)

/-- ErrRange is laid. -/
def EW (w : World) : Prop := ∃ ev, w.cell? ⟨2, 0, none⟩ = some ev ∧ (ev = .nilIface ∨ ∃ te pe, ev = .iface te pe)
theorem EW.below {w w' : World} (h : EW w) (hb : Below w.heap.size w w') : EW w' := by
  obtain ⟨ev, h1, h2⟩ := h
  exact ⟨ev, (hb.cell (p := ⟨2, 0, none⟩) (cell_lt' h1)).trans h1, h2⟩
end Go.Proofs.YtkkeocnnecegbaaGreatDoor
