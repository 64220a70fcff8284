/- The walk over the reference's digits: a number in decimal. By an AI agent. -/
import Derived.Test.YtadcegfdojocmaaDoorWalkA
import Derived.Lib.ItoaMem
namespace Go.Proofs.YtadcegfdojocmaaDoor
open Go.RowKit

theorem dec_low {v : Nat} (h : v < 10) : Lib.decDigits v = [UInt8.ofNat (48 + v)] := Lib.decDigits_one h
theorem dec_high {v : Nat} (h : ¬ v < 10) : Lib.decDigits v = Lib.decDigits (v / 10) ++ [UInt8.ofNat (48 + v % 10)] := by
  rw [Lib.decDigits, dif_neg h]
/-- What stands behind the digits still to come. -/
def DigR (U v : Nat) (sp : List UInt8) : Prop := if v = 0 ∧ sp ≠ [] then Lib.decDigits U = sp else Lib.decDigits U = Lib.decDigits v ++ sp
theorem digR_start (U : Nat) : DigR U U [] := by unfold DigR; rw [if_neg (by simp)]; simp
theorem digR_step {U v : Nat} {sp : List UInt8} (h : DigR U v sp) (hg : 0 < v ∨ sp = []) : DigR U (v / 10) (UInt8.ofNat (48 + v % 10) :: sp) := by
  unfold DigR at h ⊢
  rw [if_neg (by rintro ⟨h1, h2⟩; rcases hg with h3 | h3; omega; exact h2 h3)] at h
  by_cases hv : v < 10
  · rw [if_pos ⟨by omega, List.cons_ne_nil _ _⟩, h, dec_low hv, Nat.mod_eq_of_lt hv]; rfl
  · rw [if_neg (by rintro ⟨h1, _⟩; omega), h, dec_high hv, List.append_assoc]; rfl
theorem digR_end {U v : Nat} {sp : List UInt8} (h : DigR U v sp) (hv : v = 0) (hs : sp ≠ []) : sp = Lib.decDigits U := by
  unfold DigR at h; rw [if_pos ⟨hv, hs⟩] at h; exact h.symm
abbrev tenS : ByteArray := ⟨#[48, 49, 50, 51, 52, 53, 54, 55, 56, 57]⟩
theorem ten_at (k : Nat) (h : k < 10) : tenS.extract k (k + 1) = ⟨#[UInt8.ofNat (48 + k)]⟩ := by
  match k, h with
  | 0, _ => rfl
  | 1, _ => rfl
  | 2, _ => rfl
  | 3, _ => rfl
  | 4, _ => rfl
  | 5, _ => rfl
  | 6, _ => rfl
  | 7, _ => rfl
  | 8, _ => rfl
  | 9, _ => rfl

theorem len_low {U v n : Nat} (hU : U ≤ 9223372036854775807) (hv : 0 < v) (h : v * 10 ^ n ≤ U) : n ≤ 18 := by
  rcases Nat.lt_or_ge n 19 with h' | h'
  · omega
  · have h1 : 10 ^ 19 ≤ 10 ^ n := Nat.pow_le_pow_right (by omega) h'
    have h2 : 10 ^ n ≤ v * 10 ^ n := Nat.le_mul_of_pos_left _ hv
    have h3 : (10 : Nat) ^ 19 = 10000000000000000000 := by decide
    omega
theorem len_low' {U v n : Nat} (hU : U ≤ 9223372036854775808) (hv : 0 < v) (h : v * 10 ^ n ≤ U) : n ≤ 18 := by
  rcases Nat.lt_or_ge n 19 with h' | h'
  · omega
  · have h1 : 10 ^ 19 ≤ 10 ^ n := Nat.pow_le_pow_right (by omega) h'
    have h2 : 10 ^ n ≤ v * 10 ^ n := Nat.le_mul_of_pos_left _ hv
    have h3 : (10 : Nat) ^ 19 = 10000000000000000000 := by decide
    omega
theorem pow_step {U v n : Nat} (h : v * 10 ^ n ≤ U) : v / 10 * 10 ^ (n + 1) ≤ U := by
  have h1 : v / 10 * 10 ^ (n + 1) = v / 10 * 10 * 10 ^ n := by rw [Nat.pow_succ, Nat.mul_assoc, Nat.mul_comm (10 ^ n) 10]
  have h2 : v / 10 * 10 ≤ v := Nat.div_mul_le_self v 10
  have h3 := Nat.mul_le_mul_right (10 ^ n) h2
  omega

set_option maxHeartbeats 1000000 in
theorem digits_pos (U : Nat) (hU : U ≤ 9223372036854775807) (w : World) :
    Calls Tryd.prog 36 #[.int .i64 U] w fun e w' => e = .returned (.string ⟨(Lib.decDigits U).toArray⟩) ∧ w = w' := by
  have h0 : ¬ ((U : Int) < 0) := by omega
  go_enter Tryd.func36, Tryd.ntmps36
  go_wp2_with fail
  go_loop [0, 5] (fun n s => ∃ (v : Nat) (sp : List UInt8), v ≤ U ∧ n = .int .i64 v ∧ s = .string ⟨sp.toArray⟩ ∧ sp.length ≤ 30 ∧ v * 10 ^ sp.length ≤ U ∧ Hid (DigR U v sp)) (fun n s => (intOf n).toNat * 2 + (match s with | .string b => if b.size = 0 then 1 else 0 | _ => 0))
  case atStart => exact ⟨U, [], Nat.le_refl _, rfl, rfl, by simp, by simp, Lib.hid (digR_start U)⟩
  case round =>
    obtain ⟨v, sp, hv, rfl, rfl, hsl, hpw, HD⟩ := hrel
    have hd0 : (0 : Int) ≤ (v : Int) % 10 := by omega
    have hd1 : (v : Int) % 10 + 1 ≤ 10 := by omega
    have hd2 : (v : Int) % 10 ≤ (v : Int) % 10 + 1 := by omega
    have hd3 : ((v : Int) % 10).toNat = v % 10 := by omega
    have hvI : (0 : Int) ≤ (v : Int) := by omega
    have hvM : (v : Int) ≤ 9223372036854775807 := by omega
    have h10 := ten_at (v % 10) (Nat.mod_lt _ (by omega))
    have HPW := Lib.hid hpw
    clear hpw
    by_cases hv0 : 0 < v
    · have hv1 : (0 : Int) < (v : Int) := by omega
      have hl18 := len_low hU hv0 HPW.out
      go_wp2_with fail
      go_round
      case rel =>
        refine ⟨v / 10, UInt8.ofNat (48 + v % 10) :: sp, by omega, by go_num, ?_, by rw [List.length_cons]; omega, by rw [List.length_cons]; exact pow_step HPW.out, Lib.hid (digR_step HD.out (Or.inl hv0))⟩
        congr 1
        ext1
        simp
      case measure =>
        simp [intOf]
        (repeat split) <;> omega
    · obtain rfl : v = 0 := by omega
      cases hs : sp with
      | nil =>
        subst hs
        go_wp2_with fail
        have hst := digR_step HD.out (Or.inr rfl)
        go_round
        case rel => exact ⟨0, [48], by omega, rfl, by congr 1, by simp, by simp, Lib.hid hst⟩
        case measure => decide
      | cons x r =>
        have HE := Lib.hid (digR_end HD.out rfl (by rw [hs]; exact List.cons_ne_nil _ _))
        subst hs
        go_wp2_with fail
        go_ret
        exact ⟨by rw [← HE.out]; rfl, rfl⟩

def DigN (U v : Nat) (sp : List UInt8) : Prop := if v = 0 then Lib.decDigits U = sp else Lib.decDigits U = Lib.decDigits v ++ sp
theorem digN_step {U v : Nat} {sp : List UInt8} (h : DigN U v sp) (hg : 0 < v) : DigN U (v / 10) (UInt8.ofNat (48 + v % 10) :: sp) := by
  unfold DigN at h ⊢
  rw [if_neg (by omega)] at h
  by_cases hv : v < 10
  · rw [if_pos (by omega), h, dec_low hv, Nat.mod_eq_of_lt hv]; rfl
  · rw [if_neg (by omega), h, dec_high hv, List.append_assoc]; rfl

set_option maxHeartbeats 1000000 in
theorem digits_neg (U : Nat) (h1 : 0 < U) (hU : U ≤ 9223372036854775808) (w : World) :
    Calls Tryd.prog 36 #[.int .i64 (-(U : Int))] w fun e w' => e = .returned (.string ⟨(45 :: Lib.decDigits U).toArray⟩) ∧ w = w' := by
  have h0 : (-(U : Int) < 0) := by omega
  go_enter Tryd.func36, Tryd.ntmps36
  go_wp2_with fail
  go_loop [0, 3] (fun n s => ∃ (v : Nat) (sp : List UInt8), v ≤ U ∧ n = .int .i64 (-(v : Int)) ∧ s = .string ⟨sp.toArray⟩ ∧ sp.length ≤ 30 ∧ Hid (v * 10 ^ sp.length ≤ U) ∧ Hid (DigN U v sp)) (fun n _ => (-(intOf n)).toNat)
  case atStart => exact ⟨U, [], Nat.le_refl _, rfl, rfl, by simp, Lib.hid (by simp), Lib.hid (by unfold DigN; rw [if_neg (by omega)]; simp)⟩
  case round =>
    obtain ⟨v, sp, hv, rfl, rfl, hsl, HPW, HD⟩ := hrel
    by_cases hv0 : 0 < v
    · have hv1 : -(v : Int) < 0 := by omega
      have hl18 : sp.length ≤ 18 := len_low' hU hv0 HPW.out
      have ht : (-(v : Int)).tmod 10 = -((v % 10 : Nat) : Int) := by rw [Int.neg_tmod, Int.tmod_eq_emod_of_nonneg (by omega)]; omega
      have hq : (-(v : Int)).tdiv 10 = -((v / 10 : Nat) : Int) := by rw [Int.neg_tdiv, Int.tdiv_eq_ediv_of_nonneg (by omega)]; omega
      have hd0 : (v % 10 : Nat) < 10 := Nat.mod_lt _ (by omega)
      have hvM : -9223372036854775808 ≤ -(v : Int) := by omega
      have h10 := ten_at (v % 10) hd0
      go_wp2_with fail
      go_round
      case rel =>
        refine ⟨v / 10, UInt8.ofNat (48 + v % 10) :: sp, by omega, by go_num, ?_, by rw [List.length_cons]; omega, Lib.hid (by rw [List.length_cons]; exact pow_step HPW.out), Lib.hid (digN_step HD.out hv0)⟩
        congr 1
        ext1
        simp
      case measure => simp [intOf]; omega
    · obtain rfl : v = 0 := by omega
      have HE : Hid (sp = Lib.decDigits U) := Lib.hid (by have := HD.out; unfold DigN at this; rw [if_pos rfl] at this; exact this.symm)
      go_wp2_with fail
      go_ret
      exact ⟨by rw [← HE.out]; first | rfl | (congr 2; ext1; simp; done) | (congr 1; congr 1; ext1; simp; done) | (simp; done), rfl⟩

theorem digits_any (n : Int) (h0 : -9223372036854775808 ≤ n) (h1 : n ≤ 9223372036854775807) (w : World) :
    Calls Tryd.prog 36 #[.int .i64 n] w fun e w' => e = .returned (.string ⟨(Lib.itoa n).toArray⟩) ∧ w = w' := by
  by_cases h : n < 0
  · obtain ⟨u, rfl⟩ : ∃ u : Nat, n = -(u : Int) := ⟨n.natAbs, by omega⟩
    rw [Lib.itoa_neg u (by omega)]
    exact digits_neg u (by omega) (by omega) w
  · obtain ⟨u, rfl⟩ := Int.eq_ofNat_of_zero_le (show 0 ≤ n by omega)
    rw [Lib.itoa_nonneg]
    exact digits_pos u (by omega) w
end Go.Proofs.YtadcegfdojocmaaDoor
