/- Rows of words of 128 bits, a row being one number: what reading, replacing and appending cells does. No condition. -/
import Derived.Calls
namespace Go.Proofs.YtgdibfnpkcdiiaaGreatDoor
namespace Ev

/-- The cell at a place. -/
def gt (M i : Nat) : Nat := Nat.land (Nat.shiftRight M (Nat.mul 128 i)) 340282366920938463463374607431768211455
/-- So many cells from a place on. -/
def ch (M i n : Nat) : Nat := Nat.land (Nat.shiftRight M (Nat.mul 128 i)) (Nat.sub (Nat.pow 2 (Nat.mul 128 n)) 1)
/-- So many cells from a place on replaced. -/
def up (M i n c : Nat) : Nat := Nat.xor M (Nat.shiftLeft (Nat.xor (ch M i n) c) (Nat.mul 128 i))
/-- Cells put behind. -/
def ad (M i c : Nat) : Nat := Nat.lor M (Nat.shiftLeft c (Nat.mul 128 i))

theorem bit_ch (M i n j : Nat) : (ch M i n).testBit j = (decide (j < 128 * n) && M.testBit (128 * i + j)) := by
  show ((M >>> (128 * i)) &&& (2 ^ (128 * n) - 1)).testBit j = _
  rw [Nat.testBit_and, Nat.testBit_shiftRight, Nat.testBit_two_pow_sub_one, Bool.and_comm]

theorem gt_eq (M i : Nat) : gt M i = ch M i 1 := rfl

theorem bit_gt (M i j : Nat) : (gt M i).testBit j = (decide (j < 128) && M.testBit (128 * i + j)) := by
  rw [gt_eq, bit_ch]

theorem bit_up (M i n c j : Nat) : (up M i n c).testBit j = (M.testBit j ^^ (decide (128 * i ≤ j) && ((ch M i n).testBit (j - 128 * i) ^^ c.testBit (j - 128 * i)))) := by
  show (M ^^^ ((ch M i n ^^^ c) <<< (128 * i))).testBit j = _
  rw [Nat.testBit_xor, Nat.testBit_shiftLeft, Nat.testBit_xor]

theorem bit_ad (M i c j : Nat) : (ad M i c).testBit j = (M.testBit j || (decide (128 * i ≤ j) && c.testBit (j - 128 * i))) := by
  show (M ||| (c <<< (128 * i))).testBit j = _
  rw [Nat.testBit_or, Nat.testBit_shiftLeft]

theorem bit_big {M n j : Nat} (h : M < 2 ^ n) (hj : n ≤ j) : M.testBit j = false :=
  Nat.testBit_lt_two_pow (Nat.lt_of_lt_of_le h (Nat.pow_le_pow_right (by omega) hj))

theorem lt_of_bits {M n : Nat} (h : ∀ j, n ≤ j → M.testBit j = false) : M < 2 ^ n := Nat.lt_pow_two_of_testBit M h

theorem ch_lt (M i n : Nat) : ch M i n < 2 ^ (128 * n) := lt_of_bits fun j hj => by
  rw [bit_ch, decide_eq_false (by omega)]; rfl
theorem gt_lt (M i : Nat) : gt M i < 2 ^ 128 := ch_lt M i 1

theorem gt_ch (M i n k : Nat) : gt (ch M i n) k = if k < n then gt M (i + k) else 0 := by
  refine Nat.eq_of_testBit_eq fun j => ?_
  rw [bit_gt, bit_ch]
  split
  · rw [bit_gt]
    by_cases hj : j < 128
    · have : 128 * k + j < 128 * n := by omega
      simp [hj, this, show 128 * i + (128 * k + j) = 128 * (i + k) + j from by omega]
    · simp [hj]
  · by_cases hj : j < 128
    · have : ¬ 128 * k + j < 128 * n := by omega
      simp [this]
    · simp [hj]

theorem gt_up {c n : Nat} (M i k : Nat) (h : c < 2 ^ (128 * n)) : gt (up M i n c) k = if i ≤ k ∧ k < i + n then gt c (k - i) else gt M k := by
  refine Nat.eq_of_testBit_eq fun j => ?_
  by_cases hj : j < 128
  · rw [bit_gt, bit_up]
    split
    · rename_i hk
      rw [bit_gt, bit_ch]
      have e1 : 128 * i ≤ 128 * k + j := by omega
      have e2 : 128 * k + j - 128 * i = 128 * (k - i) + j := by omega
      have e3 : 128 * (k - i) + j < 128 * n := by omega
      have e4 : 128 * i + (128 * (k - i) + j) = 128 * k + j := by omega
      simp [hj, e1, e2, e3, e4]
    · rename_i hk
      rw [bit_gt, bit_ch]
      by_cases e1 : 128 * i ≤ 128 * k + j
      · have e2 : ¬ 128 * k + j - 128 * i < 128 * n := by omega
        have e3 : c.testBit (128 * k + j - 128 * i) = false := bit_big h (by omega)
        simp [hj, e2, e3]
      · simp [hj, e1]
  · split <;> simp [bit_gt, hj]

theorem up_lt {M i n c m : Nat} (hM : M < 2 ^ (128 * m)) (hi : i + n ≤ m) (h : c < 2 ^ (128 * n)) : up M i n c < 2 ^ (128 * m) := by
  refine lt_of_bits fun j hj => ?_
  rw [bit_up, bit_big hM hj, bit_ch]
  have e1 : ¬ j - 128 * i < 128 * n := by omega
  have e2 : c.testBit (j - 128 * i) = false := bit_big h (by omega)
  simp [e1, e2]

theorem gt_ad {M i : Nat} (c k : Nat) (h : M < 2 ^ (128 * i)) : gt (ad M i c) k = if k < i then gt M k else gt c (k - i) := by
  refine Nat.eq_of_testBit_eq fun j => ?_
  by_cases hj : j < 128
  · rw [bit_gt, bit_ad]
    split
    · rw [bit_gt]
      have e1 : ¬ 128 * i ≤ 128 * k + j := by omega
      simp [hj, e1]
    · rw [bit_gt, bit_big h (by omega)]
      have e1 : 128 * i ≤ 128 * k + j := by omega
      have e2 : 128 * k + j - 128 * i = 128 * (k - i) + j := by omega
      simp [hj, e1, e2]
  · split <;> simp [bit_gt, hj]

theorem ad_lt {M i c n : Nat} (hM : M < 2 ^ (128 * i)) (h : c < 2 ^ (128 * n)) : ad M i c < 2 ^ (128 * (i + n)) := by
  refine lt_of_bits fun j hj => ?_
  rw [bit_ad, bit_big hM (by omega), bit_big h (by omega)]
  simp

theorem gt_big {M m k : Nat} (h : M < 2 ^ (128 * m)) (hk : m ≤ k) : gt M k = 0 := by
  refine Nat.eq_of_testBit_eq fun j => ?_
  rw [bit_gt, bit_big h (by omega)]
  simp

theorem gt_word {w : Nat} (k : Nat) (h : w < 2 ^ 128) : gt w k = if k = 0 then w else 0 := by
  split
  · rename_i hk
    subst hk
    refine Nat.eq_of_testBit_eq fun j => ?_
    rw [bit_gt]
    by_cases hj : j < 128
    · simp [hj]
    · simp [hj, bit_big h (show 128 ≤ j by omega)]
  · exact gt_big (m := 1) (by simpa using h) (by omega)

theorem gt_zero (k : Nat) : gt 0 k = 0 := by
  refine Nat.eq_of_testBit_eq fun j => ?_
  rw [bit_gt]; simp

theorem gt_set {w : Nat} (T d k : Nat) (h : w < 2 ^ 128) : gt (up T d 1 w) k = if k = d then w else gt T k := by
  rw [gt_up T d k (by simpa using h), gt_word _ h]
  by_cases hk : k = d
  · subst hk; simp
  · rw [if_neg (by omega), if_neg hk]

/-- A name for a number. (To force it here would be dearer.) -/
noncomputable def fc {α : Type} (x : Nat) (k : Nat → α) : α := k x
theorem fc_eq {α : Type} (x : Nat) (k : Nat → α) : fc x k = k x := rfl

end Ev
end Go.Proofs.YtgdibfnpkcdiiaaGreatDoor
