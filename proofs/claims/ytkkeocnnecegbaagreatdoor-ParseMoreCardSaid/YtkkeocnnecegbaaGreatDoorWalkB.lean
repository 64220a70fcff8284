/- The walks over isWord, isMark, and the three closures of long. By an AI agent. -/
import Derived.Test.YtkkeocnnecegbaaGreatDoorWalkA
import Derived.Test.YtkkeocnnecegbaaGreatDoorShelf
import Derived.Deep.RegionHeld3
namespace Go.Proofs.YtkkeocnnecegbaaGreatDoor
open Go.RowKit

set_option maxHeartbeats 1000000 in
theorem isWord_any (s : ByteArray) (w : World) :
    Calls Tryz.prog 61 #[.string s] w fun e w' => e = .returned (.bool (isWordS s.data.toList)) ∧ w = w' := by
  have hl : isWordS s.data.toList = decide (s.data.toList ∈ wordL) := rfl
  rw [hl]
  have HL : ByteArray.toList s = s.data.toList := ByteArray.toList_eq s
  generalize s.data.toList = l at *
  go_enter Tryz.func61, Tryz.ntmps61
  go_wp2_with fail
  all_goals first
    | (exfalso; simp_all; done)
    | (go_ret
       exact ⟨ret_bool (by simp_all [wordL]), rfl⟩)

theorem mark_list (l : List UInt8) : isMarkS l = (decide (l ∈ mark2L) || (match l with | [c] => decide (c ∈ markL) | _ => false)) := rfl
theorem one_of (s : ByteArray) (h : s.size = 1) : s.data.toList = [s[0]] := by
  have h1 : s.data.toList.length = 1 := by rw [len_eq]; exact h
  match hl : s.data.toList, h1 with
  | [x], _ =>
    have := byte_at s 0 (by omega)
    simp only [hl, List.getElem_cons_zero] at this
    rw [this]

theorem index_mem (l : List UInt8) (c : UInt8) : decide (0 ≤ Lib.indexByte l c) = decide (c ∈ l) := by
  have h : 0 ≤ Lib.indexByte l c ↔ c ∈ l := by
    induction l with
    | nil => simp [Lib.indexByte]
    | cons b l ih =>
      have hg := Lib.indexByte_ge l c
      unfold Lib.indexByte
      by_cases hb : b = c
      · simp [hb]
      · have hcb : ¬ c = b := fun e => hb e.symm
        by_cases h1 : Lib.indexByte l c = -1
        · have hn : ¬ c ∈ l := fun hm => by have := ih.2 hm; omega
          simp [hb, h1, hcb, hn]
        · have hm : c ∈ l := ih.1 (by omega)
          simp [hb, h1, hm]
          omega
  simp only [h]
set_option maxHeartbeats 2000000 in
theorem isMark_any (s : ByteArray) (w : World) (_hs : s.size ≤ 1000000) :
    Calls Tryz.prog 104 #[.string s] w fun e w' => e = .returned (.bool (isMarkS s.data.toList)) ∧ w = w' := by
  have HL : ByteArray.toList s = s.data.toList := ByteArray.toList_eq s
  have hlen := len_eq s
  have k (x y : UInt8) : (ByteArray.toList s == [x, y]) = decide (s.data.toList = [x, y]) := by rw [HL, Bool.eq_iff_iff]; simp
  by_cases h1 : s.size = 1
  · have hs0 : 0 < s.size := by omega
    have ho := one_of s h1
    have hz : ((s.size : Int) == 1) = true := by rw [h1]; rfl
    have hz0 : (0 : Int) < (s.size : Int) := by omega
    generalize hc : s[0]'hs0 = c at ho
    have hr : isMarkS s.data.toList = decide (c ∈ markL) := by rw [ho]; simp [isMarkS, mark2L]
    rw [hr]
    have k1 : (ByteArray.toList s == [60, 61]) = false := by rw [k, ho]; simp
    have k2 : (ByteArray.toList s == [61, 61]) = false := by rw [k, ho]; simp
    have k3 : (ByteArray.toList s == [33, 61]) = false := by rw [k, ho]; simp
    have k4 : (ByteArray.toList s == [60, 60]) = false := by rw [k, ho]; simp
    have k5 : (ByteArray.toList s == [62, 62]) = false := by rw [k, ho]; simp
    clear ho hr HL hlen k h1
    have HI := Lib.hid (index_mem markL c)
    go_enter Tryz.func104, Tryz.ntmps104
    go_wp2_with fail
    refine (Tryz.strings_IndexByte ⟨markL.toArray⟩ _ _).mono ?_; rintro e w' ⟨rfl, rfl⟩
    go_wp2_with fail
    go_ret
    exact ⟨ret_bool (by rw [← HI.out]), rfl⟩
  · have hz : ((s.size : Int) == 1) = false := by simp; omega
    have hr : isMarkS s.data.toList = decide (s.data.toList ∈ mark2L) := by
      unfold isMarkS
      split
      · rename_i c hc; rw [hc] at hlen; simp at hlen; omega
      · simp
    rw [hr]
    clear hr HL hlen
    have k1 := k 60 61
    have k2 := k 61 61
    have k3 := k 33 61
    have k4 := k 60 60
    have k5 := k 62 62
    clear k
    generalize s.data.toList = l at *
    by_cases e1 : l = [60, 61]
    · rw [decide_eq_true e1] at k1
      clear k2 k3 k4 k5
      have HE := Lib.hid e1; clear e1
      go_enter Tryz.func104, Tryz.ntmps104
      go_wp2_with fail
      go_ret
      exact ⟨ret_bool (by rw [HE.out]; rfl), rfl⟩
    by_cases e2 : l = [61, 61]
    · rw [decide_eq_false e1] at k1
      rw [decide_eq_true e2] at k2
      clear k3 k4 k5 e1
      have HE := Lib.hid e2; clear e2
      go_enter Tryz.func104, Tryz.ntmps104
      go_wp2_with fail
      go_ret
      exact ⟨ret_bool (by rw [HE.out]; rfl), rfl⟩
    by_cases e3 : l = [33, 61]
    · rw [decide_eq_false e1] at k1
      rw [decide_eq_false e2] at k2
      rw [decide_eq_true e3] at k3
      clear k4 k5 e1 e2
      have HE := Lib.hid e3; clear e3
      go_enter Tryz.func104, Tryz.ntmps104
      go_wp2_with fail
      go_ret
      exact ⟨ret_bool (by rw [HE.out]; rfl), rfl⟩
    by_cases e4 : l = [60, 60]
    · rw [decide_eq_false e1] at k1
      rw [decide_eq_false e2] at k2
      rw [decide_eq_false e3] at k3
      rw [decide_eq_true e4] at k4
      clear k5 e1 e2 e3
      have HE := Lib.hid e4; clear e4
      go_enter Tryz.func104, Tryz.ntmps104
      go_wp2_with fail
      go_ret
      exact ⟨ret_bool (by rw [HE.out]; rfl), rfl⟩
    by_cases e5 : l = [62, 62]
    · rw [decide_eq_false e1] at k1
      rw [decide_eq_false e2] at k2
      rw [decide_eq_false e3] at k3
      rw [decide_eq_false e4] at k4
      rw [decide_eq_true e5] at k5
      clear e1 e2 e3 e4
      have HE := Lib.hid e5; clear e5
      go_enter Tryz.func104, Tryz.ntmps104
      go_wp2_with fail
      go_ret
      exact ⟨ret_bool (by rw [HE.out]; rfl), rfl⟩
    have hno : decide (l ∈ mark2L) = false := by simp [mark2L, e1, e2, e3, e4, e5]
    rw [hno]
    rw [decide_eq_false e1] at k1
    rw [decide_eq_false e2] at k2
    rw [decide_eq_false e3] at k3
    rw [decide_eq_false e4] at k4
    rw [decide_eq_false e5] at k5
    clear e1 e2 e3 e4 e5 hno
    go_enter Tryz.func104, Tryz.ntmps104
    go_wp2_with fail
    go_ret
    exact ⟨rfl, rfl⟩
theorem cell_lt' {w : World} {b o : Nat} {v : Value} (h : w.cell? ⟨b, o, none⟩ = some v) : b < w.heap.size := by
  unfold World.cell? at h
  rcases Nat.lt_or_ge b w.heap.size with h' | h'
  · exact h'
  · simp [Array.getElem?_eq_none h'] at h

theorem ext_take (s : ByteArray) (n : Nat) : (s.extract 0 n).data.toList = s.data.toList.take n := by
  simp [ByteArray.data_extract]
theorem ext_le (s : ByteArray) (n : Nat) (h : s.size ≤ 1000000) : (s.extract 0 n).size ≤ 1000000 := by
  rw [← len_eq, ext_take, List.length_take, len_eq]; omega
theorem isMark_v (s : ByteArray) (v : Bool) (w : World) (hs : s.size ≤ 1000000) (hv : isMarkS s.data.toList = v) :
    Calls Tryz.prog 104 #[.string s] w fun e w' => e = .returned (.bool v) ∧ w = w' := hv ▸ isMark_any s w hs

/-- How many bytes of a name or word. -/
def nWord (l : List UInt8) : Nat := match l with | [] => 0 | c :: _ => if isLet c then manyS isWd l else 0

theorem head_of (s : ByteArray) (h : 0 < s.size) : ∃ r, s.data.toList = s[0] :: r := by
  match hl : s.data.toList, len_eq s with
  | [], h' => simp at h'; omega
  | x :: r, _ =>
    have := byte_at s 0 h
    simp only [hl, List.getElem_cons_zero] at this
    exact ⟨r, by rw [this]⟩

set_option maxHeartbeats 1000000 in
theorem long1_any (s : ByteArray) (p : Nat) (w : World) (hs : s.size ≤ 1000000) (h0 : 0 < s.size) (hp : w.cell? ⟨p, 0, none⟩ = some (.string s)) :
    Calls Tryz.prog 97 #[.pointer (some ⟨p, 0, none⟩)] w fun e w' => e = .returned (.int .i64 (nWord s.data.toList)) ∧ Below w.heap.size w w' := by
  obtain ⟨r, hr⟩ := head_of s h0
  have hlp := cell_lt' hp
  have h0' : (0 : Int) < (s.size : Int) := by omega
  generalize hc : s[0]'h0 = c at hr
  cases hl : isLet c
  · have hn : nWord s.data.toList = 0 := by rw [hr]; simp [nWord, hl]
    rw [hn]
    have HL := Lib.hid hl
    clear hr hn hl
    go_enter Tryz.func97, Tryz.ntmps97
    go_wp2_with fail
    refine (letter_any c _).mono ?_; rw [HL.out]; rintro e w' ⟨rfl, rfl⟩
    go_wp2_with fail
    go_ret
    exact ⟨rfl, Below.refl _ _⟩
  · have hn : nWord s.data.toList = manyS isWd s.data.toList := by rw [hr]; simp [nWord, hl]
    rw [hn]
    have HL := Lib.hid hl
    clear hr hn hl
    go_enter Tryz.func97, Tryz.ntmps97
    go_wp2_with fail
    refine (letter_any c _).mono ?_; rw [HL.out]; rintro e w' ⟨rfl, rfl⟩
    go_wp2_with fail
    clear hc
    go_region_held3 (fun W => W.cell? ⟨p, 0, none⟩ = some (.string s)) (go_keep)
      (first
        | (go_at_call 99; refine (or_any _).mono ?_; rintro e w1 ⟨rfl, rfl⟩)
        | (go_at_call 101; refine (many_word s _ _ _ hs (by simp) (by simp)).mono ?_; rintro e w1 ⟨rfl, rfl⟩))
    go_wp2_with fail
    go_ret
    exact ⟨rfl, (((Below.refl _ _).drew.alloc (by simp) _).alloc (by simp) _)⟩

set_option maxHeartbeats 1000000 in
theorem long2_any (s : ByteArray) (p : Nat) (w : World) (hs : s.size ≤ 1000000) (hp : w.cell? ⟨p, 0, none⟩ = some (.string s)) :
    Calls Tryz.prog 102 #[.pointer (some ⟨p, 0, none⟩)] w fun e w' => e = .returned (.int .i64 (manyS isDig s.data.toList)) ∧ Below w.heap.size w w' := by
  go_enter Tryz.func102, Tryz.ntmps102
  go_wp2_with fail
  refine (many_dig s _ hs).mono ?_; rintro e w' ⟨rfl, rfl⟩
  go_wp2_with fail
  go_ret
  exact ⟨rfl, Below.refl _ _⟩

set_option maxHeartbeats 1000000 in
theorem long3_any (s : ByteArray) (p : Nat) (w : World) (hs : s.size ≤ 1000000) (h0 : 0 < s.size) (hp : w.cell? ⟨p, 0, none⟩ = some (.string s)) :
    Calls Tryz.prog 103 #[.pointer (some ⟨p, 0, none⟩)] w fun e w' => e = .returned (.int .i64 (markLen s.data.toList)) ∧ Below w.heap.size w w' := by
  by_cases h2 : 2 ≤ s.size
  · have hmin : min (2 : Int) (s.size : Int) = 2 := by omega
    have h2' : (2 : Int) ≤ (s.size : Int) := by omega
    cases hm : isMarkS (s.data.toList.take 2)
    · cases hm1 : isMarkS (s.data.toList.take 1)
      · have HM := Lib.hid hm; have HM1 := Lib.hid hm1
        have hn : markLen s.data.toList = 0 := by simp [markLen, hm, hm1]
        rw [hn]
        clear hm hm1 hn
        go_enter Tryz.func103, Tryz.ntmps103
        go_wp2_with fail
        refine wp_loop_rounds 3 ?_
        rw [rounds_succ]
        go_wp2_with fail
        refine (isMark_v (s.extract 0 2) false _ (ext_le s 2 hs) (by rw [ext_take]; exact HM.out)).mono ?_; rintro e w' ⟨rfl, rfl⟩
        go_wp2_with fail
        rw [rounds_succ]
        go_wp2_with fail
        refine (isMark_v (s.extract 0 1) false _ (ext_le s 1 hs) (by rw [ext_take]; exact HM1.out)).mono ?_; rintro e w' ⟨rfl, rfl⟩
        go_wp2_with fail
        rw [rounds_succ]
        go_wp2_with fail
        go_ret
        exact ⟨rfl, Below.refl _ _⟩
      · have HM := Lib.hid hm; have HM1 := Lib.hid hm1
        have hn : markLen s.data.toList = 1 := by simp [markLen, hm, hm1]
        rw [hn]
        clear hm hm1 hn
        go_enter Tryz.func103, Tryz.ntmps103
        go_wp2_with fail
        refine wp_loop_rounds 3 ?_
        rw [rounds_succ]
        go_wp2_with fail
        refine (isMark_v (s.extract 0 2) false _ (ext_le s 2 hs) (by rw [ext_take]; exact HM.out)).mono ?_; rintro e w' ⟨rfl, rfl⟩
        go_wp2_with fail
        rw [rounds_succ]
        go_wp2_with fail
        refine (isMark_v (s.extract 0 1) true _ (ext_le s 1 hs) (by rw [ext_take]; exact HM1.out)).mono ?_; rintro e w' ⟨rfl, rfl⟩
        go_wp2_with fail
        go_ret
        exact ⟨rfl, Below.refl _ _⟩
    · have HM := Lib.hid hm
      have hn : markLen s.data.toList = 2 := by simp [markLen, hm]; omega
      rw [hn]
      clear hm hn
      go_enter Tryz.func103, Tryz.ntmps103
      go_wp2_with fail
      refine wp_loop_rounds 3 ?_
      rw [rounds_succ]
      go_wp2_with fail
      refine (isMark_v (s.extract 0 2) true _ (ext_le s 2 hs) (by rw [ext_take]; exact HM.out)).mono ?_; rintro e w' ⟨rfl, rfl⟩
      go_wp2_with fail
      go_ret
      exact ⟨rfl, Below.refl _ _⟩
  · have h1 : s.size = 1 := by omega
    have hmin : min (2 : Int) (s.size : Int) = 1 := by omega
    have h2' : (1 : Int) ≤ (s.size : Int) := by omega
    have h12 : s.data.toList.take 2 = s.data.toList.take 1 := by rw [List.take_of_length_le (by rw [len_eq]; omega), List.take_of_length_le (by rw [len_eq]; omega)]
    cases hm1 : isMarkS (s.data.toList.take 1)
    · have HM1 := Lib.hid hm1
      have hn : markLen s.data.toList = 0 := by simp [markLen, h12, hm1]
      rw [hn]
      clear hm1 hn h1 h12
      go_enter Tryz.func103, Tryz.ntmps103
      go_wp2_with fail
      refine wp_loop_rounds 3 ?_
      rw [rounds_succ]
      go_wp2_with fail
      refine (isMark_v (s.extract 0 1) false _ (ext_le s 1 hs) (by rw [ext_take]; exact HM1.out)).mono ?_; rintro e w' ⟨rfl, rfl⟩
      go_wp2_with fail
      rw [rounds_succ]
      go_wp2_with fail
      go_ret
      exact ⟨rfl, Below.refl _ _⟩
    · have HM1 := Lib.hid hm1
      have hn : markLen s.data.toList = 1 := by simp [markLen, h12, hm1]; omega
      rw [hn]
      clear hm1 hn h1 h12
      go_enter Tryz.func103, Tryz.ntmps103
      go_wp2_with fail
      refine wp_loop_rounds 3 ?_
      rw [rounds_succ]
      go_wp2_with fail
      refine (isMark_v (s.extract 0 1) true _ (ext_le s 1 hs) (by rw [ext_take]; exact HM1.out)).mono ?_; rintro e w' ⟨rfl, rfl⟩
      go_wp2_with fail
      go_ret
      exact ⟨rfl, Below.refl _ _⟩
end Go.Proofs.YtkkeocnnecegbaaGreatDoor
