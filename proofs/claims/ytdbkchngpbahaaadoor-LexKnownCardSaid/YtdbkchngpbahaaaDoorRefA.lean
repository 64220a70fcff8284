/- The walks over the reference's small functions of layer 13 (letter, digit, blank, among, words, marks). By an AI agent. -/
import Derived.Test.YtdbkchngpbahaaaDoorWalkB
namespace Go.Proofs.YtdbkchngpbahaaaDoor
open Go.RowKit

def strL (l : List (List UInt8)) : List Value := l.map fun x => .string ⟨x.toArray⟩
set_option maxHeartbeats 400000 in
theorem rdigit_any (c : UInt8) (w : World) :
    Calls Tryd.prog 33 #[.int .u8 c.toNat] w fun e w' => e = .returned (.bool (isDig c)) ∧ w = w' := by
  rw [isDig_int]
  go_enter Tryd.func33, Tryd.ntmps33
  go_wp2_with fail
  all_goals go_ret
  all_goals exact ⟨ret_bool (by first | (rw [Bool.eq_iff_iff]; simp; omega) | (rw [Bool.eq_iff_iff]; simp; done) | (rw [Bool.eq_iff_iff]; done) | (simp; omega)), rfl⟩

set_option maxHeartbeats 400000 in
theorem rletter_any (c : UInt8) (w : World) :
    Calls Tryd.prog 30 #[.int .u8 c.toNat] w fun e w' => e = .returned (.bool (isLet c)) ∧ w = w' := by
  rw [isLet_int]
  go_enter Tryd.func30, Tryd.ntmps30
  go_wp2_with fail
  all_goals go_ret
  all_goals exact ⟨ret_bool (by first | (rw [Bool.eq_iff_iff]; simp; omega) | (rw [Bool.eq_iff_iff]; simp; done) | (rw [Bool.eq_iff_iff]; done) | (simp; omega)), rfl⟩

theorem isBlk_int (c : UInt8) : isBlk c = (decide ((c.toNat : Int) = 32) || decide ((c.toNat : Int) = 9) || decide ((c.toNat : Int) = 13) || decide ((c.toNat : Int) = 10)) := by
  unfold isBlk
  rw [Bool.eq_iff_iff]
  simp [← UInt8.toNat_inj]
  omega
set_option maxHeartbeats 400000 in
theorem rblank_any (c : UInt8) (w : World) :
    Calls Tryd.prog 23 #[.int .u8 c.toNat] w fun e w' => e = .returned (.bool (isBlk c)) ∧ w = w' := by
  rw [isBlk_int]
  go_enter Tryd.func23, Tryd.ntmps23
  go_wp2_with fail
  all_goals go_ret
  all_goals exact ⟨ret_bool (by first | (rw [Bool.eq_iff_iff]; simp; omega) | (rw [Bool.eq_iff_iff]; simp; done) | (rw [Bool.eq_iff_iff]; done) | (simp; omega)), rfl⟩

theorem words_any (w : World) : Calls Tryd.prog 32 #[] w fun e w' => e = .returned (.slice (some ⟨w.heap.size, 0, none⟩) wordL.length wordL.length) ∧ w' = w.alloc (.cells (strL wordL).toArray 9) := by
  go_enter Tryd.func32, Tryd.ntmps32
  go_wp2_with fail
  go_ret
  exact ⟨rfl, rfl⟩
def marksL : List (List UInt8) := [[40], [41], [123], [125], [91], [93], [44], [59], [61], [60], [60, 61], [61, 61], [33, 61], [43], [45], [124], [94], [42], [47], [37], [38], [60, 60], [62, 62], [33]]
theorem marks_any (w : World) : Calls Tryd.prog 42 #[] w fun e w' => e = .returned (.slice (some ⟨w.heap.size, 0, none⟩) marksL.length marksL.length) ∧ w' = w.alloc (.cells (strL marksL).toArray 9) := by
  go_enter Tryd.func42, Tryd.ntmps42
  go_wp2_with fail
  go_ret
  exact ⟨rfl, rfl⟩

def StrAt (w : World) (b : Nat) (L : List (List UInt8)) : Prop := ∀ i x, L[i]? = some x → w.cell? ⟨b, i, none⟩ = some (.string ⟨x.toArray⟩)
theorem strAt_new (w : World) (L : List (List UInt8)) : StrAt (w.alloc (.cells (strL L).toArray 9)) w.heap.size L := by
  intro i x hx
  rw [World.cell?_alloc_mark, ← Array.getElem?_toList]
  simp [strL, hx]

set_option maxHeartbeats 1000000 in
theorem among_any (s : ByteArray) (b c : Nat) (L : List (List UInt8)) (w : World) (hn : L.length ≤ 1000000) (hL : StrAt w b L) :
    Calls Tryd.prog 31 #[.string s, .slice (some ⟨b, 0, none⟩) L.length c] w fun e w' => e = .returned (.bool (decide (s.data.toList ∈ L))) ∧ w = w' := by
  have HL := Lib.hid hL; clear hL
  obtain ⟨n, hn'⟩ : ∃ n, n = L.length := ⟨_, rfl⟩
  have HN := Lib.hid hn'
  rw [← hn'] at hn ⊢
  clear hn'
  go_enter Tryd.func31, Tryd.ntmps31
  go_wp2_with fail
  go_loop [5] (fun i => ∃ k : Nat, k ≤ n ∧ i = .int .i64 k ∧ s.data.toList ∉ L.take k) (fun i => n - (intOf i).toNat)
  case atStart => exact ⟨0, Nat.zero_le _, rfl, by simp⟩
  case round =>
    obtain ⟨k, hk, rfl, hall⟩ := hrel
    have H := Lib.hid hall; clear hall
    by_cases hlt : k < n
    · obtain ⟨x, hx⟩ : ∃ x, L[k]? = some x := ⟨_, List.getElem?_eq_getElem (by rw [← HN.out]; exact hlt)⟩
      have hcell := HL.out k x hx
      have HX := Lib.hid hx; clear hx
      have hsl : s.toList = s.data.toList := ByteArray.toList_eq s
      have HS := Lib.hid hsl
      clear hsl
      by_cases he : x = s.data.toList
      · have ht : (x == s.toList) = true := by rw [HS.out, he]; simp
        have hmem : s.data.toList ∈ L := he ▸ List.mem_of_getElem? HX.out
        have HM := Lib.hid hmem
        clear hmem he
        go_wp2_with fail
        go_ret
        exact ⟨ret_bool (by simp [HM.out]), rfl⟩
      · have ht : (x == s.toList) = false := by rw [HS.out]; simp [he]
        have HE := Lib.hid he
        clear he
        go_wp2_with fail
        go_round
        case rel => exact ⟨k + 1, by omega, by go_num, by
          rw [List.take_add_one, HX.out, List.mem_append]
          rintro (h | h)
          · exact H.out h
          · simp at h; exact HE.out h.symm⟩
        case measure => simp [intOf]; omega
    · have hjn : L.take k = L := List.take_of_length_le (by rw [← HN.out]; omega)
      rw [hjn] at H
      clear hjn
      go_wp2_with fail
      go_ret
      exact ⟨ret_bool (by simp [H.out]), rfl⟩
end Go.Proofs.YtdbkchngpbahaaaDoor
