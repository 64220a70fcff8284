/- The walk over the reference's one: a part's event, if it is one. By an AI agent. -/
import Derived.Test.YtadcegfdojocmaaDoorParts
import Derived.Test.YtadcegfdojocmaaDoorRefText
import Derived.Lib.Bytealg
namespace Go.Proofs.YtadcegfdojocmaaDoor
open Go.RowKit

/-- The letters of the kinds. -/
def rp (j : Nat) : UInt8 := if j = 0 then 82 else if j = 1 then 80 else if j = 2 then 69 else 83
theorem rp_at (j : Nat) (h : j < 4) : (⟨#[82, 80, 69, 83]⟩ : ByteArray)[j]'(by exact h) = rp j := by
  match j, h with
  | 0, _ => rfl
  | 1, _ => rfl
  | 2, _ => rfl
  | 3, _ => rfl
theorem ne_lit {c d : UInt8} (h : c ≠ d) : ((c.toNat : Int) != (d.toNat : Int)) = true := by
  rw [bne_iff_ne]; intro e; exact h (UInt8.toNat_inj.1 (by omega))
theorem eq_lit {c d : UInt8} (h : c = d) : ((c.toNat : Int) != (d.toNat : Int)) = false := by
  subst h; simp
theorem str_full {s : ByteArray} (h0 : 0 < s.size) : s.toList.isEmpty = false := by
  rw [Lib.toList_data]
  cases hl : s.data.toList with
  | nil => have : s.size = 0 := by rw [Lib.size_eq, hl]; rfl
           omega
  | cons _ _ => rfl
/-- What one answers. -/
def OneOut (l : List UInt8) (e : Ending) : Prop := (∃ (k : Nat) (x : Int), oneP l = some (k, x) ∧ e = .returned (.tuple #[.agg #[.int .u8 k, .int .i64 x], .bool true])) ∨
  (oneP l = none ∧ ∃ (k x : Int), e = .returned (.tuple #[.agg #[.int .u8 k, .int .i64 x], .bool false]))

theorem below_two (w : World) (q : Nat) (x y : Value) : Below w.heap.size w ((((w.alloc (.cells #[.int .u8 0, .int .i64 0] 44)).drewN q).setCell ⟨w.heap.size, 0, none⟩ x).setCell ⟨w.heap.size, 1, none⟩ y) :=
  ((((Below.refl _ _).alloc (Nat.le_refl _) _).trans ((below_drewN _ _).mono (by simp))).setCell (p := ⟨w.heap.size, 0, none⟩) (Nat.le_refl _) _).setCell (p := ⟨w.heap.size, 1, none⟩) (Nat.le_refl _) _
theorem oneP_out (s : ByteArray) (h0 : 0 < s.size) (hne : ∀ j, j < 4 → s[0] ≠ rp j) : oneP s.data.toList = none := oneP_none fun k n ⟨h1, h4, _, h⟩ => by
  have h2 : s.data.toList[0]? = some s[0] := Lib.data_getElem? s 0 h0
  have : k = 1 ∨ k = 2 ∨ k = 3 ∨ k = 4 := by omega
  rw [h] at h2
  rcases this with rfl | rfl | rfl | rfl
  · exact hne 0 (by omega) (by simp [letterB] at h2; exact h2.symm)
  · exact hne 1 (by omega) (by simp [letterB] at h2; exact h2.symm)
  · exact hne 2 (by omega) (by simp [letterB] at h2; exact h2.symm)
  · exact hne 3 (by omega) (by simp [letterB] at h2; exact h2.symm)

set_option maxRecDepth 100000 in
set_option maxHeartbeats 4000000 in
theorem one_nil (w : World) :
    Calls Tryd.prog 38 #[.string ⟨#[]⟩] w fun e w' => OneOut [] e ∧ Below w.heap.size w w' := by
  go_enter Tryd.func38, Tryd.ntmps38
  go_wp2_with fail
  go_loopw [4] (fun k wr => ∃ j q : Nat, j ≤ 4 ∧ k = .int .i64 j ∧ wr = (w.alloc (.cells #[.int .u8 0, .int .i64 0] 44)).drewN q) (fun k _ => 4 - (intOf k).toNat)
  case atStart => exact ⟨0, 0, Nat.zero_le _, rfl, rfl⟩
  case round =>
    obtain ⟨j, q, hj, rfl, rfl⟩ := hrel
    by_cases hlt : j < 4
    · have hd : decide ((j : Int) < 4) = true := by simp; omega
      go_wp2_with fail
      go_quiet (fail)
      go_wp2_with fail
      go_roundw
      case rel => exact ⟨j + 1, q + nq, by omega, by go_num, rfl⟩
      case measure => simp [intOf]; omega
    · obtain rfl : j = 4 := by omega
      go_wp2_with fail
      go_quiet (fail)
      go_wp2_with fail
      exact bodyPost_ret (v := .tuple #[.agg #[.int .u8 0, .int .i64 0], .bool false]) (by simp [results, Tryd.results38, go_sem]) rfl ⟨Or.inr ⟨oneP_nil, 0, 0, rfl⟩, below_two w (q + nq) _ _⟩

set_option maxRecDepth 100000 in
set_option maxHeartbeats 4000000 in
theorem one_out (s : ByteArray) (w : World) (hs : s.size ≤ 100000) (h0 : 0 < s.size) (hne : ∀ j, j < 4 → s[0] ≠ rp j) :
    Calls Tryd.prog 38 #[.string s] w fun e w' => OneOut s.data.toList e ∧ Below w.heap.size w w' := by
  have HN := Lib.hid hne
  clear hne
  have he := str_full h0
  go_enter Tryd.func38, Tryd.ntmps38
  go_wp2_with fail
  go_loopw [4] (fun k wr => ∃ j q : Nat, j ≤ 4 ∧ k = .int .i64 j ∧ wr = (w.alloc (.cells #[.int .u8 0, .int .i64 0] 44)).drewN q) (fun k _ => 4 - (intOf k).toNat)
  case atStart => exact ⟨0, 0, Nat.zero_le _, rfl, rfl⟩
  case round =>
    obtain ⟨j, q, hj, rfl, rfl⟩ := hrel
    by_cases hlt : j < 4
    · have hd : decide ((j : Int) < 4) = true := by simp; omega
      have hj0 : (0 : Int) ≤ (j : Int) := by omega
      have hj4 : (j : Int) < 4 := by omega
      have hb := ne_lit (HN.out j hlt)
      rw [← rp_at j hlt] at hb
      go_wp2_with fail
      go_quiet (fail)
      go_wp2_with fail
      go_roundw
      case rel => exact ⟨j + 1, q + nq, by omega, by go_num, rfl⟩
      case measure => simp [intOf]; omega
    · obtain rfl : j = 4 := by omega
      go_wp2_with fail
      go_quiet (fail)
      go_wp2_with fail
      exact bodyPost_ret (v := .tuple #[.agg #[.int .u8 0, .int .i64 0], .bool false]) (by simp [results, Tryd.results38, go_sem]) rfl ⟨Or.inr ⟨oneP_out s h0 HN.out, 0, 0, rfl⟩, below_two w (q + nq) _ _⟩

/-- The number that the first digits spell. -/
def val (D : List UInt8) (k : Nat) : Nat := foldD 0 (D.take k)
theorem val_succ (D : List UInt8) (k : Nat) (h : k < D.length) : val D (k + 1) = val D k * 10 + (D[k].toNat - 48) := by
  unfold val; rw [List.take_succ_eq_append_getElem h, foldD_snoc]
theorem val_le (u k : Nat) : val (Lib.decDigits u) k ≤ u := by
  have h1 := fold_dec u
  have h2 : foldD 0 (Lib.decDigits u) = foldD (foldD 0 ((Lib.decDigits u).take k)) ((Lib.decDigits u).drop k) := by rw [← foldD_append, List.take_append_drop]
  have h3 := foldD_le ((Lib.decDigits u).drop k) (foldD 0 ((Lib.decDigits u).take k))
  unfold val; omega
theorem val_all (u k : Nat) (h : (Lib.decDigits u).length ≤ k) : val (Lib.decDigits u) k = u := by
  unfold val; rw [List.take_of_length_le h]; exact fold_dec u
theorem part_tail {c : UInt8} {t : List UInt8} {κ : Nat} {x : Int} (hl : letterB (κ + 1) = [c]) (h : isPart (c :: t) (κ + 1) x) : t = Lib.itoa x ∧ i64ok x := by
  obtain ⟨_, _, h1, h2⟩ := h
  rw [hl] at h2; simp at h2; exact ⟨h2, h1⟩
/-- The kind is the letter's. -/
theorem part_kind {c : UInt8} {t : List UInt8} {κ k : Nat} {x : Int} (hκ : κ < 4) (hl : letterB (κ + 1) = [c]) (h : isPart (c :: t) k x) : k = κ + 1 := by
  obtain ⟨h1, h4, _, h2⟩ := h
  obtain ⟨d, hd, _⟩ := letter_one h1 h4
  rw [hd] at h2; simp at h2
  exact letter_inj h1 h4 (by omega) (by omega) (by rw [hd, hl, h2.1])
theorem part_plus {c : UInt8} {t : List UInt8} {κ : Nat} {x : Int} (hl : letterB (κ + 1) = [c]) (hm : ∀ r, t ≠ 45 :: r) (h : isPart (c :: t) (κ + 1) x) : ∃ u : Nat, x = u ∧ u ≤ 9223372036854775807 ∧ t = Lib.decDigits u := by
  obtain ⟨h1, h2, h3⟩ := part_tail hl h
  by_cases hn : x < 0
  · obtain ⟨u, rfl⟩ : ∃ u : Nat, x = -(u : Int) := ⟨x.natAbs, by omega⟩
    rw [Lib.itoa_neg u (by omega)] at h1
    exact absurd h1 (hm _)
  · obtain ⟨u, rfl⟩ := Int.eq_ofNat_of_zero_le (show 0 ≤ x by omega)
    rw [Lib.itoa_nonneg] at h1
    exact ⟨u, rfl, by omega, h1⟩
theorem part_minus {c : UInt8} {r : List UInt8} {κ : Nat} {x : Int} (hl : letterB (κ + 1) = [c]) (h : isPart (c :: 45 :: r) (κ + 1) x) : ∃ u : Nat, x = -(u : Int) ∧ u ≤ 9223372036854775808 ∧ r = Lib.decDigits u := by
  obtain ⟨h1, h2, h3⟩ := part_tail hl h
  by_cases hn : x < 0
  · obtain ⟨u, rfl⟩ : ∃ u : Nat, x = -(u : Int) := ⟨x.natAbs, by omega⟩
    rw [Lib.itoa_neg u (by omega)] at h1
    simp at h1
    exact ⟨u, rfl, by omega, h1⟩
  · obtain ⟨u, rfl⟩ := Int.eq_ofNat_of_zero_le (show 0 ≤ x by omega)
    rw [Lib.itoa_nonneg] at h1
    have := dec_dig u 45 (by rw [← h1]; simp)
    unfold isDig at this; simp at this
theorem part_len {c : UInt8} {t : List UInt8} {κ : Nat} {x : Int} (hl : letterB (κ + 1) = [c]) (h : isPart (c :: t) (κ + 1) x) : t.length ≤ 21 := by
  obtain ⟨h1, h2, h3⟩ := part_tail hl h
  rw [h1]; exact Lib.itoa_length_le x h2 h3
end Go.Proofs.YtadcegfdojocmaaDoor
