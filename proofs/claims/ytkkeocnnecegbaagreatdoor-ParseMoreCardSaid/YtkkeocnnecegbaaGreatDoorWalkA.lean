/- The walks over the small functions of the package lex: letter, digit, sets of bytes, many, isWord, isMark. By an AI agent. -/
import Derived.Test.YtkkeocnnecegbaaGreatDoorRows
import Derived.Test.YtkkeocnnecegbaaGreatDoorJA
import Derived.WalkKit
import Derived.WalkSpells
import Derived.WalkLawsBesides
import Derived.BigQuiet
import Derived.Deep.QuietTactic
import Derived.Lib.Hide
namespace Go.Proofs.YtkkeocnnecegbaaGreatDoor
open Go.RowKit

theorem ret_bool {a b : Bool} (h : a = b) : Ending.returned (.bool a) = Ending.returned (.bool b) := by rw [h]
theorem ret_int {k : IntKind} {a b : Int} (h : a = b) : Ending.returned (.int k a) = .returned (.int k b) := by rw [h]
theorem below_drewN (w : World) (q : Nat) : Below w.heap.size w (w.drewN q) := ⟨rfl, rfl, rfl, Nat.le_refl _, fun _ _ => rfl⟩
theorem below_next {w w1 w2 : World} (h : Below w.heap.size w w1) (h' : Below w1.heap.size w1 w2) : Below w.heap.size w w2 := h.trans (h'.mono h.size)

theorem isLet_int (c : UInt8) : isLet c = (decide ((c.toNat : Int) = 95) || (decide (97 ≤ (c.toNat : Int)) && decide ((c.toNat : Int) ≤ 122)) || (decide (65 ≤ (c.toNat : Int)) && decide ((c.toNat : Int) ≤ 90))) := by
  unfold isLet
  rw [Bool.eq_iff_iff]
  simp [UInt8.le_iff_toNat_le, ← UInt8.toNat_inj]
  omega
theorem isDig_int (c : UInt8) : isDig c = (decide (48 ≤ (c.toNat : Int)) && decide ((c.toNat : Int) ≤ 57)) := by
  unfold isDig
  rw [Bool.eq_iff_iff]
  simp [UInt8.le_iff_toNat_le]
  omega

set_option maxHeartbeats 400000 in
theorem digit_any (c : UInt8) (w : World) :
    Calls Tryz.prog 100 #[.int .u8 c.toNat] w fun e w' => e = .returned (.bool (isDig c)) ∧ w = w' := by
  rw [isDig_int]
  go_enter Tryz.func100, Tryz.ntmps100
  go_wp2_with fail
  all_goals go_ret
  all_goals exact ⟨ret_bool (by first | (rw [Bool.eq_iff_iff]; simp; omega) | (rw [Bool.eq_iff_iff]; simp; done) | (rw [Bool.eq_iff_iff]; done) | (simp; omega)), rfl⟩

set_option maxHeartbeats 400000 in
theorem letter_any (c : UInt8) (w : World) :
    Calls Tryz.prog 98 #[.int .u8 c.toNat] w fun e w' => e = .returned (.bool (isLet c)) ∧ w = w' := by
  rw [isLet_int]
  go_enter Tryz.func98, Tryz.ntmps98
  go_wp2_with fail
  all_goals go_ret
  all_goals exact ⟨ret_bool (by first | (rw [Bool.eq_iff_iff]; simp; omega) | (rw [Bool.eq_iff_iff]; simp; done) | (rw [Bool.eq_iff_iff]; done) | (simp; omega)), rfl⟩
def isWd (c : UInt8) : Bool := isLet c || isDig c
def fLet : Value := .func (.func 98) #[] #[]
def fDig : Value := .func (.func 100) #[] #[]

set_option maxHeartbeats 400000 in
theorem or1_any (c : UInt8) (pa pb : Nat) (w : World) (ha : w.cell? ⟨pa, 0, none⟩ = some (.func (.func 98) #[] #[])) (hb : w.cell? ⟨pb, 0, none⟩ = some (.func (.func 100) #[] #[])) :
    Calls Tryz.prog 147 #[.int .u8 c.toNat, .pointer (some ⟨pa, 0, none⟩), .pointer (some ⟨pb, 0, none⟩)] w fun e w' => e = .returned (.bool (isWd c)) ∧ w = w' := by
  unfold isWd
  cases h1 : isLet c
  · have H1 := Lib.hid h1; clear h1
    go_enter Tryz.func147, Tryz.ntmps147
    go_wp2_with fail
    refine (letter_any c _).mono ?_; rw [H1.out]; rintro e w' ⟨rfl, rfl⟩
    go_wp2_with fail
    refine (digit_any c _).mono ?_; rintro e w' ⟨rfl, rfl⟩
    go_wp2_with fail
    go_ret
    exact ⟨ret_bool (by simp), rfl⟩
  · have H1 := Lib.hid h1; clear h1
    go_enter Tryz.func147, Tryz.ntmps147
    go_wp2_with fail
    refine (letter_any c _).mono ?_; rw [H1.out]; rintro e w' ⟨rfl, rfl⟩
    go_wp2_with fail
    go_ret
    exact ⟨ret_bool (by simp), rfl⟩

theorem byte_at (s : ByteArray) (k : Nat) (h : k < s.size) : s.data.toList[k]'(by simpa using h) = s[k] := by simp; rfl
theorem len_eq (s : ByteArray) : s.data.toList.length = s.size := by simp

set_option maxHeartbeats 400000 in
theorem many_dig (s : ByteArray) (w : World) (hs : s.size ≤ 1000000) :
    Calls Tryz.prog 101 #[.func (.func 100) #[] #[], .string s] w fun e w' => e = .returned (.int .i64 (manyS isDig s.data.toList)) ∧ w = w' := by
  go_enter Tryz.func101, Tryz.ntmps101
  go_wp2_with fail
  go_loop [8] (fun i => ∃ k : Nat, k ≤ s.size ∧ i = .int .i64 k ∧ ∀ j (h : j < s.data.toList.length), j < k → isDig s.data.toList[j] = true) (fun i => s.size - (intOf i).toNat)
  case atStart => exact ⟨0, Nat.zero_le _, rfl, fun j _ hj => absurd hj (Nat.not_lt_zero _)⟩
  case round =>
    obtain ⟨k, hk, rfl, hall⟩ := hrel
    have H := Lib.hid hall; clear hall
    by_cases hlt : k < s.size
    · have HB := Lib.hid (byte_at s k hlt)
      cases hd : isDig s[k]
      · have HD := Lib.hid hd; clear hd
        go_wp2_with fail
        refine (digit_any s[k] _).mono ?_; rw [HD.out]; rintro e w' ⟨rfl, rfl⟩
        go_wp2_with fail
        go_ret
        exact ⟨ret_int (congrArg Int.ofNat (manyS_at (k := k) (by rw [len_eq]; exact hlt) (fun j h hj => H.out j h hj) (by rw [HB.out]; exact HD.out))).symm, rfl⟩
      · have HD := Lib.hid hd; clear hd
        go_wp2_with fail
        refine (digit_any s[k] _).mono ?_; rw [HD.out]; rintro e w' ⟨rfl, rfl⟩
        go_wp2_with fail
        go_round
        case rel => exact ⟨k + 1, by omega, by go_num, fun j h hj => by
          by_cases hjk : j = k
          · subst hjk; rw [HB.out]; exact HD.out
          · exact H.out j h (by omega)⟩
        case measure => simp [intOf]; omega
    · obtain rfl : k = s.size := by omega
      go_wp2_with fail
      go_ret
      exact ⟨ret_int (by rw [manyS_all (fun j h => H.out j h (by rw [len_eq] at h; exact h)), len_eq]), rfl⟩

set_option maxHeartbeats 400000 in
theorem many_word (s : ByteArray) (pa pb : Nat) (w : World) (hs : s.size ≤ 1000000) (ha : w.cell? ⟨pa, 0, none⟩ = some (.func (.func 98) #[] #[])) (hb : w.cell? ⟨pb, 0, none⟩ = some (.func (.func 100) #[] #[])) :
    Calls Tryz.prog 101 #[.func (.func 147) #[] #[.pointer (some ⟨pa, 0, none⟩), .pointer (some ⟨pb, 0, none⟩)], .string s] w fun e w' => e = .returned (.int .i64 (manyS isWd s.data.toList)) ∧ w = w' := by
  have HA := Lib.hid ha; have HB' := Lib.hid hb; clear ha hb
  go_enter Tryz.func101, Tryz.ntmps101
  go_wp2_with fail
  go_loop [8] (fun i => ∃ k : Nat, k ≤ s.size ∧ i = .int .i64 k ∧ ∀ j (h : j < s.data.toList.length), j < k → isWd s.data.toList[j] = true) (fun i => s.size - (intOf i).toNat)
  case atStart => exact ⟨0, Nat.zero_le _, rfl, fun j _ hj => absurd hj (Nat.not_lt_zero _)⟩
  case round =>
    obtain ⟨k, hk, rfl, hall⟩ := hrel
    have H := Lib.hid hall; clear hall
    by_cases hlt : k < s.size
    · have HB := Lib.hid (byte_at s k hlt)
      cases hd : isWd s[k]
      · have HD := Lib.hid hd; clear hd
        go_wp2_with fail
        refine (or1_any s[k] pa pb _ HA.out HB'.out).mono ?_; rw [HD.out]; rintro e w' ⟨rfl, rfl⟩
        go_wp2_with fail
        go_ret
        exact ⟨ret_int (congrArg Int.ofNat (manyS_at (k := k) (by rw [len_eq]; exact hlt) (fun j h hj => H.out j h hj) (by rw [HB.out]; exact HD.out))).symm, rfl⟩
      · have HD := Lib.hid hd; clear hd
        go_wp2_with fail
        refine (or1_any s[k] pa pb _ HA.out HB'.out).mono ?_; rw [HD.out]; rintro e w' ⟨rfl, rfl⟩
        go_wp2_with fail
        go_round
        case rel => exact ⟨k + 1, by omega, by go_num, fun j h hj => by
          by_cases hjk : j = k
          · subst hjk; rw [HB.out]; exact HD.out
          · exact H.out j h (by omega)⟩
        case measure => simp [intOf]; omega
    · obtain rfl : k = s.size := by omega
      go_wp2_with fail
      go_ret
      exact ⟨ret_int (by rw [manyS_all (fun j h => H.out j h (by rw [len_eq] at h; exact h)), len_eq]), rfl⟩

set_option maxHeartbeats 400000 in
theorem or_any (w : World) :
    Calls Tryz.prog 99 #[.func (.func 98) #[] #[], .func (.func 100) #[] #[]] w fun e w' => e = .returned (.func (.func 147) #[] #[.pointer (some ⟨w.heap.size, 0, none⟩), .pointer (some ⟨w.heap.size + 1, 0, none⟩)]) ∧
      w' = (w.alloc (.cells #[.func (.func 98) #[] #[]] 165)).alloc (.cells #[.func (.func 100) #[] #[]] 165) := by
  go_enter Tryz.func99, Tryz.ntmps99
  go_wp2_with fail
  go_ret
  exact ⟨rfl, rfl⟩

theorem str_beq (l : List UInt8) (m : List UInt8) : ((⟨l.toArray⟩ : ByteArray).toList == (⟨m.toArray⟩ : ByteArray).toList) = decide (l = m) := by
  rw [Bool.eq_iff_iff]
  simp [ByteArray.toList_eq]

end Go.Proofs.YtkkeocnnecegbaaGreatDoor
