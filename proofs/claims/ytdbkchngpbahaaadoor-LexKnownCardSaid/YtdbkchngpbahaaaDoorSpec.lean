/- The plain law of the package lex: which tokens a row of bytes has, or its first error. No program in sight. By an AI agent. -/
import Derived.Lib.ParseIntBMem
namespace Go.Proofs.YtdbkchngpbahaaaDoor

def isLet (c : UInt8) : Bool := c == 95 || (97 ≤ c && c ≤ 122) || (65 ≤ c && c ≤ 90)
def isDig (c : UInt8) : Bool := 48 ≤ c && c ≤ 57
def isBlk (c : UInt8) : Bool := c == 32 || c == 9 || c == 13 || c == 10
def wordL : List (List UInt8) := [[118, 97, 114], [102, 117, 110, 99], [105, 102], [101, 108, 115, 101], [102, 111, 114], [114, 101, 116, 117, 114, 110], [112, 114, 105, 110, 116], [101, 120, 105, 116], [114, 101, 97, 100], [99, 97, 108, 108]]
def isWordS (l : List UInt8) : Bool := decide (l ∈ wordL)
def markL : List UInt8 := [40, 41, 123, 125, 91, 93, 44, 59, 61, 60, 43, 45, 124, 94, 42, 47, 37, 38, 33]
def mark2L : List (List UInt8) := [[60, 61], [61, 61], [33, 61], [60, 60], [62, 62]]
def isMarkS (l : List UInt8) : Bool := decide (l ∈ mark2L) || (match l with | [c] => decide (c ∈ markL) | _ => false)
/-- A number's; none: it is too great, or begins with 0. -/
def numS (l : List UInt8) : Option Int :=
  match Lib.parseUintM 2147483647 0 l with
  | .ok v => if l ≠ [48] ∧ l.head? = some 48 then none else some (v : Int)
  | _ => none

structure Tok where
  kind : Nat
  text : List UInt8
  n : Int
  at' : Nat

/-- How long a token of a set of bytes at the beginning is. -/
def manyS (p : UInt8 → Bool) (r : List UInt8) : Nat := (r.takeWhile p).length
def markLen (r : List UInt8) : Nat := if isMarkS (r.take 2) then min 2 r.length else if isMarkS (r.take 1) then 1 else 0

/-- The token at the beginning of r (not empty, no blank): its kind, length, number; or the error. -/
def tokAt (r : List UInt8) : Except Int (Nat × Nat × Int) :=
  match r with
  | [] => .error 130
  | c :: _ =>
    if isLet c then .ok (if isWordS (r.take (manyS (fun c => isLet c || isDig c) r)) then 2 else 1, manyS (fun c => isLet c || isDig c) r, 0)
    else if isDig c then
      match numS (r.take (manyS isDig r)) with
      | some v => .ok (3, manyS isDig r, v)
      | none => .error 131
    else if markLen r = 0 then .error 130 else .ok (4, markLen r, 0)

/-- The tokens from place at' on, behind acc; or the first error, at its place. -/
def lexFrom : Nat → List UInt8 → Nat → List Tok → Except (Nat × Int) (List Tok)
  | 0, _, at', acc => .ok (acc ++ [⟨5, [], 0, at'⟩])
  | _ + 1, [], at', acc => .ok (acc ++ [⟨5, [], 0, at'⟩])
  | f + 1, c :: r, at', acc =>
    if isBlk c then lexFrom f r (at' + 1) acc
    else match tokAt (c :: r) with
      | .error e => .error (at', e)
      | .ok (k, n, v) => lexFrom f ((c :: r).drop n) (at' + n) (acc ++ [⟨k, (c :: r).take n, v, at'⟩])
def lexS (l : List UInt8) : Except (Nat × Int) (List Tok) := lexFrom l.length l 0 []

theorem manyS_le (p : UInt8 → Bool) (r : List UInt8) : manyS p r ≤ r.length := (List.takeWhile_prefix p).length_le
theorem manyS_pos {p : UInt8 → Bool} {c : UInt8} {r : List UInt8} (h : p c = true) : 0 < manyS p (c :: r) := by simp [manyS, h]
theorem manyS_zero {p : UInt8 → Bool} {c : UInt8} {r : List UInt8} (h : p c = false) : manyS p (c :: r) = 0 := by simp [manyS, h]
theorem markLen_le (r : List UInt8) : markLen r ≤ r.length := by
  unfold markLen
  split
  · omega
  · split
    · rename_i h
      cases r with
      | nil => simp [isMarkS, mark2L] at h
      | cons c r => simp
    · omega
/-- Whether p holds of byte i says where the row of bytes of p ends. -/
theorem manyS_at {p : UInt8 → Bool} {r : List UInt8} {k : Nat} (hk : k < r.length) (hall : ∀ i (h : i < r.length), i < k → p r[i] = true) (hno : p r[k] = false) : manyS p r = k := by
  induction r generalizing k with
  | nil => simp at hk
  | cons c r ih =>
    cases k with
    | zero => exact manyS_zero (by simpa using hno)
    | succ k =>
      have h0 := hall 0 (by simp) (by omega)
      have := ih (k := k) (by simpa using hk) (fun i h hi => hall (i + 1) (by simpa using h) (by omega)) hno
      simp only [manyS] at this ⊢
      simp only [List.getElem_cons_zero] at h0
      rw [List.takeWhile_cons, if_pos h0, List.length_cons, this]
theorem manyS_all {p : UInt8 → Bool} {r : List UInt8} (hall : ∀ i (h : i < r.length), p r[i] = true) : manyS p r = r.length := by
  induction r with
  | nil => rfl
  | cons c r ih =>
    have h0 := hall 0 (by simp)
    have h1 := ih (fun i h => hall (i + 1) (by simpa using h))
    simp only [List.getElem_cons_zero] at h0
    simp only [manyS] at h1 ⊢
    rw [List.takeWhile_cons, if_pos h0, List.length_cons, h1, List.length_cons]
end Go.Proofs.YtdbkchngpbahaaaDoor
