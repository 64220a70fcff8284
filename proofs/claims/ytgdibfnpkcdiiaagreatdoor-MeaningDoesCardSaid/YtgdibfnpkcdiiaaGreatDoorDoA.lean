/- What an operation makes of two numbers, here and in the document: the same. By an AI agent. -/
import Derived.Test.YtgdibfnpkcdiiaaGreatDoorRows
import Derived.WalkKit
import Derived.WalkSpells
import Derived.WalkLawsBesides
import Derived.BigQuiet
import Derived.Deep.QuietTactic
import Derived.Lib.Hide
import Derived.Laws.Bits128
namespace Go.Proofs.YtgdibfnpkcdiiaaGreatDoor
open Go.RowKit

theorem ret_int {k : IntKind} {a b : Int} (h : a = b) : Ending.returned (.int k a) = .returned (.int k b) := by rw [h]
theorem bit_any (x : Bool) (w : World) : Calls Tryz.prog 65 #[.bool x] w fun e w' => e = .returned (.int .i64 (if x then 1 else 0)) ∧ w = w' := by
  cases x <;> (go_enter Tryz.func65, Tryz.ntmps65; go_wp2_with fail; go_ret; exact ⟨rfl, rfl⟩)
theorem i64_and63 (n : Int) : bits .and .i64 n 63 = n % 64 := by
  have h63 : (BitVec.ofInt 64 63).toNat = 2 ^ 6 - 1 := by decide
  have key : (BitVec.ofInt 64 n &&& BitVec.ofInt 64 63).toNat = (n % ((2 ^ 64 : Nat) : Int)).toNat % 2 ^ 6 := by
    rw [BitVec.toNat_and, BitVec.toNat_ofInt, h63, Nat.and_two_pow_sub_one_eq_mod]
  show IntKind.i64.wrap ((BitVec.ofInt 64 n &&& BitVec.ofInt 64 63).toNat : Nat) = n % 64
  rw [key, IntKind.wrap_i64]
  omega
theorem u64_mod64 (n : Int) : (IntKind.u64.wrap n).tmod 64 = n % 64 := by
  have h0 := wrap_u64_nonneg n
  rw [Int.tmod_eq_emod_of_nonneg h0]
  simp only [IntKind.wrap, IntKind.bits, IntKind.signed]
  simp
/-- What both make of it. -/
def DoR (op a b : Int) (w : World) : Prop := ∃ d, Calls Tryz.prog 20 #[.int .u8 op, .int .i64 a, .int .i64 b] w (fun e w' => e = .returned (.int .i64 d) ∧ w = w') ∧ Calls Tryz.prog 21 #[.int .u8 op, .int .i64 a, .int .i64 b] w (fun e w' => e = .returned (.int .i64 d) ∧ w = w')

set_option maxHeartbeats 1000000 in
theorem do_1 (a b : Int) (w : World) : DoR 1 a b w := by
  apply Exists.intro
  refine ⟨?_, ?_⟩
  · go_enter Tryz.func20, Tryz.ntmps20
    go_wp2_with fail
    all_goals go_ret
    all_goals exact ⟨rfl, rfl⟩
  · go_enter Tryz.func21, Tryz.ntmps21
    go_wp2_with fail
    all_goals go_ret
    all_goals exact ⟨rfl, rfl⟩

set_option maxHeartbeats 1000000 in
theorem do_2 (a b : Int) (w : World) : DoR 2 a b w := by
  apply Exists.intro
  refine ⟨?_, ?_⟩
  · go_enter Tryz.func20, Tryz.ntmps20
    go_wp2_with fail
    all_goals go_ret
    all_goals exact ⟨rfl, rfl⟩
  · go_enter Tryz.func21, Tryz.ntmps21
    go_wp2_with fail
    all_goals go_ret
    all_goals exact ⟨rfl, rfl⟩

set_option maxHeartbeats 1000000 in
theorem do_3 (a b : Int) (w : World) : DoR 3 a b w := by
  apply Exists.intro
  refine ⟨?_, ?_⟩
  · go_enter Tryz.func20, Tryz.ntmps20
    go_wp2_with fail
    all_goals go_ret
    all_goals exact ⟨rfl, rfl⟩
  · go_enter Tryz.func21, Tryz.ntmps21
    go_wp2_with fail
    all_goals go_ret
    all_goals exact ⟨rfl, rfl⟩

set_option maxHeartbeats 1000000 in
theorem do_8 (a b : Int) (w : World) : DoR 8 a b w := by
  apply Exists.intro
  refine ⟨?_, ?_⟩
  · go_enter Tryz.func20, Tryz.ntmps20
    go_wp2_with fail
    all_goals go_ret
    all_goals exact ⟨rfl, rfl⟩
  · go_enter Tryz.func21, Tryz.ntmps21
    go_wp2_with fail
    all_goals go_ret
    all_goals exact ⟨rfl, rfl⟩

set_option maxHeartbeats 1000000 in
theorem do_9 (a b : Int) (w : World) : DoR 9 a b w := by
  apply Exists.intro
  refine ⟨?_, ?_⟩
  · go_enter Tryz.func20, Tryz.ntmps20
    go_wp2_with fail
    all_goals go_ret
    all_goals exact ⟨rfl, rfl⟩
  · go_enter Tryz.func21, Tryz.ntmps21
    go_wp2_with fail
    all_goals go_ret
    all_goals exact ⟨rfl, rfl⟩

set_option maxHeartbeats 1000000 in
theorem do_10 (a b : Int) (w : World) : DoR 10 a b w := by
  apply Exists.intro
  refine ⟨?_, ?_⟩
  · go_enter Tryz.func20, Tryz.ntmps20
    go_wp2_with fail
    all_goals go_ret
    all_goals exact ⟨rfl, rfl⟩
  · go_enter Tryz.func21, Tryz.ntmps21
    go_wp2_with fail
    all_goals go_ret
    all_goals exact ⟨rfl, rfl⟩

set_option maxHeartbeats 1000000 in
theorem do_11 (a b : Int) (w : World) : DoR 11 a b w := by
  have e1 := i64_and63 b
  have e2 := u64_mod64 b
  have hc : 0 ≤ b % 64 := by omega
  generalize b % 64 = c at e1 e2 hc
  apply Exists.intro
  refine ⟨?_, ?_⟩
  · go_enter Tryz.func20, Tryz.ntmps20
    go_wp2_with fail
    all_goals go_ret
    all_goals exact ⟨rfl, rfl⟩
  · go_enter Tryz.func21, Tryz.ntmps21
    go_wp2_with fail
    all_goals go_ret
    all_goals exact ⟨rfl, rfl⟩

set_option maxHeartbeats 1000000 in
theorem do_13 (a b : Int) (w : World) : DoR 13 a b w := by
  have e1 := i64_and63 b
  have e2 := u64_mod64 b
  have hc : 0 ≤ b % 64 := by omega
  generalize b % 64 = c at e1 e2 hc
  apply Exists.intro
  refine ⟨?_, ?_⟩
  · go_enter Tryz.func20, Tryz.ntmps20
    go_wp2_with fail
    all_goals go_ret
    all_goals exact ⟨rfl, rfl⟩
  · go_enter Tryz.func21, Tryz.ntmps21
    go_wp2_with fail
    all_goals go_ret
    all_goals exact ⟨rfl, rfl⟩

set_option maxHeartbeats 1000000 in
theorem do_14 (a b : Int) (w : World) : DoR 14 a b w := by
  cases hx : decide (a < b) with
  | true =>
    refine ⟨1, ?_, ?_⟩
    · go_enter Tryz.func20, Tryz.ntmps20
      go_wp2_with fail
      refine (bit_any _ _).mono ?_; rintro e w' ⟨rfl, rfl⟩
      go_wp2_with fail
      all_goals go_ret
      all_goals exact ⟨rfl, rfl⟩
    · go_enter Tryz.func21, Tryz.ntmps21
      go_wp2_with fail
      all_goals go_ret
      all_goals exact ⟨rfl, rfl⟩
  | false =>
    refine ⟨0, ?_, ?_⟩
    · go_enter Tryz.func20, Tryz.ntmps20
      go_wp2_with fail
      refine (bit_any _ _).mono ?_; rintro e w' ⟨rfl, rfl⟩
      go_wp2_with fail
      all_goals go_ret
      all_goals exact ⟨rfl, rfl⟩
    · go_enter Tryz.func21, Tryz.ntmps21
      go_wp2_with fail
      all_goals go_ret
      all_goals exact ⟨rfl, rfl⟩

set_option maxHeartbeats 1000000 in
theorem do_16 (a b : Int) (w : World) : DoR 16 a b w := by
  cases hx : (a == b) with
  | true =>
    refine ⟨1, ?_, ?_⟩
    · go_enter Tryz.func20, Tryz.ntmps20
      go_wp2_with fail
      refine (bit_any _ _).mono ?_; rintro e w' ⟨rfl, rfl⟩
      go_wp2_with fail
      all_goals go_ret
      all_goals exact ⟨rfl, rfl⟩
    · go_enter Tryz.func21, Tryz.ntmps21
      go_wp2_with fail
      all_goals go_ret
      all_goals exact ⟨rfl, rfl⟩
  | false =>
    refine ⟨0, ?_, ?_⟩
    · go_enter Tryz.func20, Tryz.ntmps20
      go_wp2_with fail
      refine (bit_any _ _).mono ?_; rintro e w' ⟨rfl, rfl⟩
      go_wp2_with fail
      all_goals go_ret
      all_goals exact ⟨rfl, rfl⟩
    · go_enter Tryz.func21, Tryz.ntmps21
      go_wp2_with fail
      all_goals go_ret
      all_goals exact ⟨rfl, rfl⟩

set_option maxHeartbeats 1000000 in
theorem do_4 (a b : Int) (w : World) : DoR 4 a b w := by
  by_cases h0 : b = 0
  · subst h0
    apply Exists.intro
    refine ⟨?_, ?_⟩
    · go_enter Tryz.func20, Tryz.ntmps20
      go_wp2_with fail
      all_goals go_ret
      all_goals exact ⟨rfl, rfl⟩
    · go_enter Tryz.func21, Tryz.ntmps21
      go_wp2_with fail
      all_goals go_ret
      all_goals exact ⟨rfl, rfl⟩
  · have h0 : (b == 0) = false := by simpa using h0
    by_cases h1 : b = -1
    · subst h1
      apply Exists.intro
      refine ⟨?_, ?_⟩
      · go_enter Tryz.func20, Tryz.ntmps20
        go_wp2_with fail
        all_goals go_ret
        all_goals exact ⟨rfl, rfl⟩
      · go_enter Tryz.func21, Tryz.ntmps21
        go_wp2_with fail
        all_goals go_ret
        all_goals exact ⟨ret_int (by simp), rfl⟩
    · have h1 : (b == -1) = false := by simpa using h1
      have h2 : b ≠ 0 := by simpa using h0
      apply Exists.intro
      refine ⟨?_, ?_⟩
      · go_enter Tryz.func20, Tryz.ntmps20
        go_wp2_with fail
        all_goals go_ret
        all_goals exact ⟨rfl, rfl⟩
      · go_enter Tryz.func21, Tryz.ntmps21
        go_wp2_with fail
        all_goals go_ret
        all_goals exact ⟨rfl, rfl⟩

set_option maxHeartbeats 1000000 in
theorem do_5 (a b : Int) (w : World) : DoR 5 a b w := by
  by_cases h0 : b = 0
  · subst h0
    apply Exists.intro
    refine ⟨?_, ?_⟩
    · go_enter Tryz.func20, Tryz.ntmps20
      go_wp2_with fail
      all_goals go_ret
      all_goals exact ⟨rfl, rfl⟩
    · go_enter Tryz.func21, Tryz.ntmps21
      go_wp2_with fail
      all_goals go_ret
      all_goals exact ⟨rfl, rfl⟩
  · have h0 : (b == 0) = false := by simpa using h0
    by_cases h1 : b = -1
    · subst h1
      apply Exists.intro
      refine ⟨?_, ?_⟩
      · go_enter Tryz.func20, Tryz.ntmps20
        go_wp2_with fail
        all_goals go_ret
        all_goals exact ⟨rfl, rfl⟩
      · go_enter Tryz.func21, Tryz.ntmps21
        go_wp2_with fail
        all_goals go_ret
        all_goals exact ⟨rfl, rfl⟩
    · have h1 : (b == -1) = false := by simpa using h1
      have h2 : b ≠ 0 := by simpa using h0
      apply Exists.intro
      refine ⟨?_, ?_⟩
      · go_enter Tryz.func20, Tryz.ntmps20
        go_wp2_with fail
        all_goals go_ret
        all_goals exact ⟨rfl, rfl⟩
      · go_enter Tryz.func21, Tryz.ntmps21
        go_wp2_with fail
        all_goals go_ret
        all_goals exact ⟨rfl, rfl⟩

set_option maxHeartbeats 2000000 in
theorem do_no (op a b : Int) (w : World) (h1 : (op == 1) = false) (h2 : (op == 2) = false) (h3 : (op == 3) = false) (h8 : (op == 8) = false) (h9 : (op == 9) = false) (h10 : (op == 10) = false) (h11 : (op == 11) = false) (h13 : (op == 13) = false) (h14 : (op == 14) = false) (h16 : (op == 16) = false) (h4 : (op == 4) = false) (h5 : (op == 5) = false) : DoR op a b w := by
  apply Exists.intro
  refine ⟨?_, ?_⟩
  · go_enter Tryz.func20, Tryz.ntmps20
    go_wp2_with fail
    all_goals go_ret
    all_goals exact ⟨rfl, rfl⟩
  · go_enter Tryz.func21, Tryz.ntmps21
    go_wp2_with fail
    all_goals go_ret
    all_goals exact ⟨rfl, rfl⟩

theorem do_any (op a b : Int) (w : World) : DoR op a b w := by
  by_cases h1 : op = 1
  · subst h1; exact do_1 a b w
  by_cases h2 : op = 2
  · subst h2; exact do_2 a b w
  by_cases h3 : op = 3
  · subst h3; exact do_3 a b w
  by_cases h8 : op = 8
  · subst h8; exact do_8 a b w
  by_cases h9 : op = 9
  · subst h9; exact do_9 a b w
  by_cases h10 : op = 10
  · subst h10; exact do_10 a b w
  by_cases h11 : op = 11
  · subst h11; exact do_11 a b w
  by_cases h13 : op = 13
  · subst h13; exact do_13 a b w
  by_cases h14 : op = 14
  · subst h14; exact do_14 a b w
  by_cases h16 : op = 16
  · subst h16; exact do_16 a b w
  by_cases h4 : op = 4
  · subst h4; exact do_4 a b w
  by_cases h5 : op = 5
  · subst h5; exact do_5 a b w
  exact do_no op a b w (by simpa using h1) (by simpa using h2) (by simpa using h3) (by simpa using h8) (by simpa using h9) (by simpa using h10) (by simpa using h11) (by simpa using h13) (by simpa using h14) (by simpa using h16) (by simpa using h4) (by simpa using h5)
end Go.Proofs.YtgdibfnpkcdiiaaGreatDoor
