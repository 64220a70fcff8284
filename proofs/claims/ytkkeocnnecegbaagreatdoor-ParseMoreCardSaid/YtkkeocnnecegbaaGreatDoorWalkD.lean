/- The walks over slices.Contains and slices.Index of bytes, and over strconv.ParseUint at 31 bits of a row of digits. By an AI agent. -/
import Derived.Test.YtkkeocnnecegbaaGreatDoorWalkC
import Derived.Lib.Strings
import Derived.Lib.Walk
import Derived.Lib.ConvBytes
import Derived.Lib.ParseIntBMem
import Derived.Laws.Strings3
import Derived.Laws.Closers25
import Derived.Laws.Closers25b
import Derived.BigCall
import Derived.BigGuard
namespace Go.Proofs.YtkkeocnnecegbaaGreatDoor
open Go.RowKit

/-- Is a number one of the first n? -/
def has (n : Nat) (q : Nat → Int) (x : Int) : Bool := decide (∃ i, i < n ∧ q i = x)

set_option maxHeartbeats 400000 in
theorem index_no (b o n c : Nat) (q : Nat → Int) (x : Int) (w : World) (hn : n ≤ 1000000) (hq : ∀ i, i < n → w.cell? ⟨b, o + i, none⟩ = some (.int .u8 (q i))) (h : ∀ i, i < n → q i ≠ x) :
    Calls Tryz.prog 96 #[.slice (some ⟨b, o, none⟩) n c, .int .u8 x] w fun e w' => e = .returned (.int .i64 (-1)) ∧ w = w' := by
  have H := Lib.hid h; clear h
  go_enter Tryz.func96, Tryz.ntmps96
  go_wp2
  go_loop [8] (fun i => ∃ k : Nat, k ≤ n ∧ i = .int .i64 k) (fun i => n - (intOf i).toNat)
  case atStart => exact ⟨0, Nat.zero_le _, rfl⟩
  case round =>
    obtain ⟨k, hk, rfl⟩ := hrel
    by_cases hlt : k < n
    · have e1 := hq k hlt
      have e2 : (x == q k) = false := beq_eq_false_iff_ne.2 (fun e => H.out k hlt e.symm)
      clear hq
      go_wp2
      go_round
      case rel => exact ⟨k + 1, by omega, by go_num⟩
      case measure => simp [intOf]; omega
    · clear hq
      go_wp2
      go_ret
      exact ⟨rfl, rfl⟩

set_option maxHeartbeats 400000 in
theorem index_yes (b o n c j : Nat) (q : Nat → Int) (x : Int) (w : World) (hn : n ≤ 1000000) (hq : ∀ i, i < n → w.cell? ⟨b, o + i, none⟩ = some (.int .u8 (q i))) (hj : j < n) (hx : q j = x) (h : ∀ i, i < j → q i ≠ x) :
    Calls Tryz.prog 96 #[.slice (some ⟨b, o, none⟩) n c, .int .u8 x] w fun e w' => e = .returned (.int .i64 j) ∧ w = w' := by
  have H := Lib.hid h; clear h
  have HX := Lib.hid hx; clear hx
  go_enter Tryz.func96, Tryz.ntmps96
  go_wp2
  go_loop [8] (fun i => ∃ k : Nat, k ≤ j ∧ i = .int .i64 k) (fun i => n - (intOf i).toNat)
  case atStart => exact ⟨0, Nat.zero_le _, rfl⟩
  case round =>
    obtain ⟨k, hk, rfl⟩ := hrel
    by_cases hlt : k < j
    · have e1 := hq k (by omega)
      have e2 : (x == q k) = false := beq_eq_false_iff_ne.2 (fun e => H.out k hlt e.symm)
      clear hq
      go_wp2
      go_round
      case rel => exact ⟨k + 1, by omega, by go_num⟩
      case measure => simp [intOf]; omega
    · obtain rfl : k = j := by omega
      have e1 := hq k hj
      have e2 : (x == q k) = true := beq_iff_eq.2 HX.out.symm
      clear hq
      go_wp2
      go_ret
      exact ⟨rfl, rfl⟩

theorem first_at (n : Nat) (q : Nat → Int) (x : Int) (h : ∃ i, i < n ∧ q i = x) : ∃ j, j < n ∧ q j = x ∧ ∀ i, i < j → q i ≠ x := by
  induction n with
  | zero => obtain ⟨i, hi, _⟩ := h; omega
  | succ n ih =>
    by_cases hp : ∃ i, i < n ∧ q i = x
    · obtain ⟨j, hj, hx, hf⟩ := ih hp
      exact ⟨j, by omega, hx, hf⟩
    · obtain ⟨i, hi, hx⟩ := h
      have : i = n := by
        by_cases hin : i < n
        · exact absurd ⟨i, hin, hx⟩ hp
        · omega
      subst this
      exact ⟨i, hi, hx, fun k hk hkx => hp ⟨k, hk, hkx⟩⟩

set_option maxHeartbeats 400000 in
theorem contains_any (b o n c : Nat) (q : Nat → Int) (x : Int) (w : World) (hn : n ≤ 1000000) (hq : ∀ i, i < n → w.cell? ⟨b, o + i, none⟩ = some (.int .u8 (q i))) :
    Calls Tryz.prog 57 #[.slice (some ⟨b, o, none⟩) n c, .int .u8 x] w fun e w' => e = .returned (.bool (has n q x)) ∧ w = w' := by
  have HQ := Lib.hid hq; clear hq
  by_cases hp : ∃ i, i < n ∧ q i = x
  · obtain ⟨j, hj, hx, hf⟩ := first_at n q x hp
    have hr : has n q x = true := decide_eq_true hp
    rw [hr]
    have HX := Lib.hid hx; have HF := Lib.hid hf
    clear hx hf hp hr
    go_enter Tryz.func57, Tryz.ntmps57
    go_wp2_with (go_at_call 96; refine (index_yes b o n c j q x _ hn HQ.out hj HX.out HF.out).mono ?_; rintro e w' ⟨rfl, rfl⟩)
    go_ret
    exact ⟨ret_bool (by simp), rfl⟩
  · have hr : has n q x = false := decide_eq_false hp
    rw [hr]
    have HP := Lib.hid hp
    clear hp hr
    go_enter Tryz.func57, Tryz.ntmps57
    go_wp2_with (go_at_call 96; refine (index_no b o n c q x _ hn HQ.out (fun i hi e => HP.out ⟨i, hi, e⟩)).mono ?_; rintro e w' ⟨rfl, rfl⟩)
    go_ret
    exact ⟨ret_bool (by simp), rfl⟩


theorem blank_one (c : UInt8) : has 4 (fun i => (([32, 9, 13, 10] : List Int).getD i 0)) c.toNat = isBlk c := by
  unfold has isBlk
  rw [Bool.eq_iff_iff]
  simp only [decide_eq_true_eq, Bool.or_eq_true, beq_iff_eq, ← UInt8.toNat_inj]
  constructor
  · rintro ⟨i, hi, h⟩
    match i, hi with
    | 0, _ => simp at h; simp; omega
    | 1, _ => simp at h; simp; omega
    | 2, _ => simp at h; simp; omega
    | 3, _ => simp at h; simp; omega
  · rintro (((h | h) | h) | h)
    · exact ⟨0, by omega, by simp at h; simp; omega⟩
    · exact ⟨1, by omega, by simp at h; simp; omega⟩
    · exact ⟨2, by omega, by simp at h; simp; omega⟩
    · exact ⟨3, by omega, by simp at h; simp; omega⟩

set_option maxHeartbeats 32000000 in
set_option maxRecDepth 100000 in
theorem uint31_any (t : ByteArray) (hne : t.size ≠ 0) (hmax : t.size ≤ 1000000) (hdg : ∀ c ∈ t.data.toList, isDig c = true) (w : World) :
    Calls Tryz.prog 105 #[.string t, .int .i64 10, .int .i64 31] w fun e w' => e = .returned (Lib.uintTupleM 208 2147483647 (Lib.parseUintM 2147483647 0 t.data.toList)) ∧ w' = Lib.bytesWorld w 5 t := by
  have hemp : t.toList.isEmpty = false := by
    rw [← decide_eq_emptyBytes]
    exact decide_eq_false (fun h => hne (by rw [h]; rfl))
  have hcv := Lib.run_convert_string_bytes (P := Tryz.prog) w 9 30 5 t (u := .string) Tryz.underlying9 Tryz.underlying30 Tryz.underlying5
  have hB : ∀ j, j < t.size → (Lib.bytesWorld w 5 t).cell? ⟨w.heap.size, j, none⟩ = some (.int .u8 (t.data.toList.getD j 0).toNat) := fun j hj => Lib.bytesWorld_cell w 5 t j hj
  obtain ⟨W1, hW1⟩ : ∃ W1, W1 = Lib.bytesWorld w 5 t := ⟨_, rfl⟩
  rw [← hW1] at hcv hB ⊢
  clear hW1
  obtain ⟨bs, hL⟩ : ∃ bs, bs = t.data.toList := ⟨_, rfl⟩
  have hLn : bs.length = t.size := by rw [hL, Lib.size_eq]
  rw [← hL] at hB hdg ⊢
  clear hL
  have HDG := Lib.hid hdg; clear hdg
  have hmv : IntKind.u64.wrap (IntKind.u64.wrap 2147483648 - 1) = 2147483647 := by
    rw [IntKind.wrap_u64, IntKind.wrap_u64]
    decide
  go_enter Tryz.func105, Tryz.ntmps105
  go_wp2
  go_loop [12, 13, 101] (fun vu vn vi => ∃ (k acc : Nat) (a : Int), vu = .bool false ∧ vn = .int .u64 a ∧ vi = .int .i64 k ∧ k ≤ t.size ∧ Hid (a = (acc : Int) ∧ acc ≤ 2147483647 ∧ Lib.parseUintM 2147483647 0 bs = Lib.parseUintM 2147483647 acc (bs.drop k)))
    (fun _ _ vi => t.size - (intOf vi).toNat)
  case atStart => exact ⟨0, 0, 0, rfl, rfl, rfl, by omega, rfl, by omega, rfl⟩
  case round =>
    obtain ⟨k, acc, a, rfl, rfl, rfl, hk, hh⟩ := hrel
    obtain ⟨ha, hacc, hdec⟩ := hh.out
    clear hh
    have a0 : 0 ≤ a := by omega
    have a1 : a ≤ 2147483647 := by omega
    by_cases hkn : k < t.size
    · have hc := hB k hkn
      have hdrop : bs.drop k = bs[k]'(by omega) :: bs.drop (k + 1) := List.drop_eq_getElem_cons (by omega)
      have hget : bs.getD k 0 = bs[k]'(by omega) := by simp [List.getD, List.getElem?_eq_getElem (show k < bs.length by omega)]
      have hdd : isDig (bs[k]'(by omega)) = true := HDG.out _ (List.getElem_mem _)
      rw [hdrop] at hdec
      rw [hget] at hc
      generalize bs[k]'(by omega) = c at hc hdec hdd
      have hc256 : c.toNat < 256 := c.toNat_lt
      clear hB hdrop hget
      rw [isDig_int] at hdd
      simp only [Bool.and_eq_true, decide_eq_true_eq] at hdd
      obtain ⟨hd0', hd1'⟩ := hdd
      have hd0 : 48 ≤ c.toNat := by omega
      have hd1 : c.toNat ≤ 57 := by omega
      clear hd0' hd1'
      have hcut : ¬ 1844674407370955162 ≤ acc := by omega
      by_cases hov : 2147483647 < acc * 10 + (c.toNat - 48)
      · have hF : Lib.parseUintM 2147483647 acc (c :: bs.drop (k + 1)) = .range := by simp [Lib.parseUintM, hd0, hd1, hcut, hov]
        rw [hF] at hdec
        have iov : 2147483647 < a * 10 + ((c.toNat : Int) - 48) := by omega
        clear hcut hacc hF hov ha
        go_wp2
        go_ret2
        exact ⟨rfl, rfl⟩
      · have hF : Lib.parseUintM 2147483647 acc (c :: bs.drop (k + 1)) = Lib.parseUintM 2147483647 (acc * 10 + (c.toNat - 48)) (bs.drop (k + 1)) := by simp [Lib.parseUintM, hd0, hd1, hcut, hov]
        have HN : Hid (a * 10 + ((c.toNat : Int) - 48) = ((acc * 10 + (c.toNat - 48) : Nat) : Int) ∧ acc * 10 + (c.toNat - 48) ≤ 2147483647 ∧ Lib.parseUintM 2147483647 0 bs = Lib.parseUintM 2147483647 (acc * 10 + (c.toNat - 48)) (bs.drop (k + 1))) := Lib.hid ⟨by omega, by omega, hdec.trans hF⟩
        have iov : a * 10 + ((c.toNat : Int) - 48) ≤ 2147483647 := by omega
        clear hcut hacc hF hov hdec ha
        go_wp2
        refine ⟨⟨k + 1, acc * 10 + (c.toNat - 48), a * 10 + ((c.toNat : Int) - 48), rfl, (by first | rfl | (congr 1; omega)), (by first | rfl | (congr 1; omega)), by omega, HN⟩, by simp [intOf]; omega⟩
    · have hkk : k = t.size := by omega
      subst hkk
      have hF : Lib.parseUintM 2147483647 acc (bs.drop t.size) = .ok acc := by rw [List.drop_eq_nil_of_le (by omega)]; rfl
      rw [hF] at hdec
      subst ha
      clear hacc hF a0 a1
      go_wp2
      go_ret2
      exact ⟨rfl, rfl⟩

end Go.Proofs.YtkkeocnnecegbaaGreatDoor
