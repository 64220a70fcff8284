/- The walks over lex.IsName, the reference's IsName, and both Spells over tokens made by hand. By an AI agent. -/
import Derived.Test.YtdbkchngpbahaaaDoorWalkG
import Derived.Test.YtdbkchngpbahaaaDoorNames
import Derived.Test.YtdbkchngpbahaaaDoorRefA
namespace Go.Proofs.YtdbkchngpbahaaaDoor
open Go.RowKit

theorem name_len {l : List UInt8} {c : UInt8} {r : List UInt8} (h : l = c :: r) : isNameS l = (isLet c && !isWordS l && manyS isWd l == l.length) := by
  subst h; rfl
theorem emp_list (s : ByteArray) (h : s.size = 0) : s.toList = [] := by
  rw [ByteArray.toList_eq]; exact List.eq_nil_of_length_eq_zero (by rw [len_eq]; exact h)
theorem emp_not (s : ByteArray) (h : 0 < s.size) : s.toList.isEmpty = false := by
  rw [ByteArray.toList_eq]
  cases hl : s.data.toList with
  | nil => have := len_eq s; rw [hl] at this; simp at this; omega
  | cons _ _ => rfl

set_option maxHeartbeats 1000000 in
theorem isName_any (s : ByteArray) (w : World) (hs : s.size ≤ 1000000) :
    Calls Tryd.prog 14 #[.string s] w fun e w' => e = .returned (.bool (isNameS s.data.toList)) ∧ Below w.heap.size w w' := by
  by_cases h0 : s.size = 0
  · have hv : isNameS s.data.toList = false := by rw [List.eq_nil_of_length_eq_zero ((len_eq s).trans h0)]; rfl
    have HV := Lib.hid hv
    have he := emp_list s h0
    clear hv
    go_enter Tryd.func14, Tryd.ntmps14
    go_wp2_with fail
    go_ret
    exact ⟨ret_bool HV.out.symm, Below.refl _ _⟩
  · have hp : 0 < s.size := by omega
    obtain ⟨r, hr⟩ := head_of s hp
    have hp' : (0 : Int) < (s.size : Int) := by omega
    have he := emp_not s hp
    have he' : (!s.toList.isEmpty) = true := by rw [he]; rfl
    generalize hc : s[0]'hp = c at hr
    have hv := name_len hr
    have HV := Lib.hid hv
    clear hv hr h0
    cases hl : isLet c
    · have HL := Lib.hid hl; clear hl
      go_enter Tryd.func14, Tryd.ntmps14
      go_wp2_with fail
      refine (letter_any c _).mono ?_; rw [HL.out]; rintro e w' ⟨rfl, rfl⟩
      go_wp2_with fail
      go_ret
      exact ⟨ret_bool (by rw [HV.out, HL.out]; rfl), Below.refl _ _⟩
    · have HL := Lib.hid hl; clear hl
      cases hw : isWordS s.data.toList
      · have HW := Lib.hid hw; clear hw
        obtain ⟨n, hn⟩ : ∃ n, n = manyS isWd s.data.toList := ⟨_, rfl⟩
        have HN := Lib.hid hn; clear hn
        by_cases hm : n = s.size
        · subst hm
          go_enter Tryd.func14, Tryd.ntmps14
          go_wp2_with fail
          refine (letter_any c _).mono ?_; rw [HL.out]; rintro e w' ⟨rfl, rfl⟩
          go_wp2_with fail
          refine (isWord_any s _).mono ?_; rw [HW.out]; rintro e w' ⟨rfl, rfl⟩
          go_wp2_with fail
          refine (or_any _).mono ?_; rintro e w1 ⟨rfl, rfl⟩
          go_wp2_with fail
          refine (many_word s _ _ _ hs (by simp) (by simp)).mono ?_; rw [← HN.out]; rintro e w1 ⟨rfl, rfl⟩
          go_wp2_with fail
          go_ret
          exact ⟨ret_bool (by rw [HV.out, HL.out, HW.out, ← HN.out, len_eq]; simp), ((Below.refl _ _).alloc (by simp) _).alloc (by simp) _⟩
        · have hm1 : (n == s.size) = false := by simp [hm]
          have hm2 : ((n : Int) == (s.size : Int)) = false := by rw [beq_eq_false_iff_ne]; omega
          have hm3 : ¬ (n : Int) = (s.size : Int) := by omega
          go_enter Tryd.func14, Tryd.ntmps14
          go_wp2_with fail
          refine (letter_any c _).mono ?_; rw [HL.out]; rintro e w' ⟨rfl, rfl⟩
          go_wp2_with fail
          refine (isWord_any s _).mono ?_; rw [HW.out]; rintro e w' ⟨rfl, rfl⟩
          go_wp2_with fail
          refine (or_any _).mono ?_; rintro e w1 ⟨rfl, rfl⟩
          go_wp2_with fail
          refine (many_word s _ _ _ hs (by simp) (by simp)).mono ?_; rw [← HN.out]; rintro e w1 ⟨rfl, rfl⟩
          go_wp2_with fail
          go_ret
          exact ⟨ret_bool (by rw [HV.out, HL.out, HW.out, ← HN.out, len_eq, hm1]; rfl), ((Below.refl _ _).alloc (by simp) _).alloc (by simp) _⟩
      · have HW := Lib.hid hw; clear hw
        go_enter Tryd.func14, Tryd.ntmps14
        go_wp2_with fail
        refine (letter_any c _).mono ?_; rw [HL.out]; rintro e w' ⟨rfl, rfl⟩
        go_wp2_with fail
        refine (isWord_any s _).mono ?_; rw [HW.out]; rintro e w' ⟨rfl, rfl⟩
        go_wp2_with fail
        go_ret
        exact ⟨ret_bool (by rw [HV.out, HL.out, HW.out]; rfl), Below.refl _ _⟩

set_option maxHeartbeats 1000000 in
theorem rIsName_any (s : ByteArray) (w : World) (hs : s.size ≤ 1000000) :
    Calls Tryd.prog 15 #[.string s] w fun e w' => e = .returned (.bool (isNameS s.data.toList)) ∧ Below w.heap.size w w' := by
  by_cases h0 : s.size = 0
  · have hv : isNameS s.data.toList = false := by rw [List.eq_nil_of_length_eq_zero ((len_eq s).trans h0)]; rfl
    have HV := Lib.hid hv
    have he := emp_list s h0
    clear hv
    go_enter Tryd.func15, Tryd.ntmps15
    go_wp2_with fail
    go_ret
    exact ⟨ret_bool HV.out.symm, Below.refl _ _⟩
  · have hp : 0 < s.size := by omega
    obtain ⟨r, hr⟩ := head_of s hp
    have hp' : (0 : Int) < (s.size : Int) := by omega
    have he := emp_not s hp
    have he' : (!s.toList.isEmpty) = true := by rw [he]; rfl
    generalize hc : s[0]'hp = c at hr
    have hv := name_len hr
    have HV := Lib.hid hv
    have HC := Lib.hid hc
    clear hv hr h0
    cases hl : isLet c
    · have HL := Lib.hid hl; clear hl
      go_enter Tryd.func15, Tryd.ntmps15
      go_wp2_with fail
      refine (rletter_any c _).mono ?_; rw [HL.out]; rintro e w' ⟨rfl, rfl⟩
      go_wp2_with fail
      go_ret
      exact ⟨ret_bool (by rw [HV.out, HL.out]; rfl), Below.refl _ _⟩
    · have HL := Lib.hid hl; clear hl
      have AM := Lib.hid (fun w => among_any s w.heap.size wordL.length wordL _ (by decide) (strAt_new w wordL) : ∀ w : World, _)
      cases hw : isWordS s.data.toList
      · have HW := Lib.hid hw
        have hd : decide (s.data.toList ∈ wordL) = false := hw
        have HD := Lib.hid hd
        clear hw hd
        go_enter Tryd.func15, Tryd.ntmps15
        go_wp2_with fail
        refine (rletter_any c _).mono ?_; rw [HL.out]; rintro e w' ⟨rfl, rfl⟩
        go_wp2_with fail
        refine (words_any _).mono ?_; rintro e w1 ⟨rfl, rfl⟩
        go_wp2_with fail
        refine (AM.out w).mono ?_; rw [HD.out]; rintro e w1 ⟨rfl, rfl⟩
        clear hc
        go_wp2_with fail
        go_loop [3] (fun i => ∃ k : Nat, k ≤ s.size ∧ i = .int .i64 k ∧ ∀ j (h : j < s.data.toList.length), j < k → isWd s.data.toList[j] = true) (fun i => s.size - (intOf i).toNat)
        case atStart => exact ⟨0, Nat.zero_le _, rfl, fun j _ hj => absurd hj (Nat.not_lt_zero _)⟩
        case round =>
          obtain ⟨k, hk, rfl, hall⟩ := hrel
          have H := Lib.hid hall; clear hall
          by_cases hlt : k < s.size
          · have HB := Lib.hid (byte_at s k hlt)
            cases hd : isLet s[k]
            · have HD1 := Lib.hid hd; clear hd
              cases hd : isDig s[k]
              · have HD2 := Lib.hid hd; clear hd
                go_wp2_with fail
                refine (rletter_any s[k] _).mono ?_; rw [HD1.out]; rintro e w' ⟨rfl, rfl⟩
                go_wp2_with fail
                refine (rdigit_any s[k] _).mono ?_; rw [HD2.out]; rintro e w' ⟨rfl, rfl⟩
                go_wp2_with fail
                go_ret
                refine ⟨ret_bool ?_, (Below.refl _ _).alloc (by simp) _⟩
                have hm := manyS_at (p := isWd) (k := k) (by rw [len_eq]; exact hlt) (fun j h hj => H.out j h hj) (by rw [HB.out]; unfold isWd; rw [HD1.out, HD2.out]; rfl)
                rw [HV.out, hm, len_eq]
                have : (k == s.size) = false := by simp; omega
                rw [this, Bool.and_false]
              · have HD2 := Lib.hid hd; clear hd
                go_wp2_with fail
                refine (rletter_any s[k] _).mono ?_; rw [HD1.out]; rintro e w' ⟨rfl, rfl⟩
                go_wp2_with fail
                refine (rdigit_any s[k] _).mono ?_; rw [HD2.out]; rintro e w' ⟨rfl, rfl⟩
                go_wp2_with fail
                go_round
                case rel => exact ⟨k + 1, by omega, by go_num, fun j h hj => by
                  by_cases hjk : j = k
                  · subst hjk; rw [HB.out]; unfold isWd; rw [HD1.out, HD2.out]; rfl
                  · exact H.out j h (by omega)⟩
                case measure => simp [intOf]; omega
            · have HD1 := Lib.hid hd; clear hd
              go_wp2_with fail
              refine (rletter_any s[k] _).mono ?_; rw [HD1.out]; rintro e w' ⟨rfl, rfl⟩
              go_wp2_with fail
              go_round
              case rel => exact ⟨k + 1, by omega, by go_num, fun j h hj => by
                by_cases hjk : j = k
                · subst hjk; rw [HB.out]; unfold isWd; rw [HD1.out]; rfl
                · exact H.out j h (by omega)⟩
              case measure => simp [intOf]; omega
          · have hka : ∀ j (h : j < s.data.toList.length), isWd s.data.toList[j] = true := fun j h => H.out j h (by rw [len_eq] at h; omega)
            have HM := Lib.hid (manyS_all hka)
            clear hka
            go_wp2_with fail
            go_ret
            refine ⟨ret_bool ?_, (Below.refl _ _).alloc (by simp) _⟩
            rw [HV.out, HL.out, HW.out, HM.out]; simp
      · have HW := Lib.hid hw
        have hd : decide (s.data.toList ∈ wordL) = true := hw
        have HD := Lib.hid hd
        clear hw hd
        go_enter Tryd.func15, Tryd.ntmps15
        go_wp2_with fail
        refine (rletter_any c _).mono ?_; rw [HL.out]; rintro e w' ⟨rfl, rfl⟩
        go_wp2_with fail
        refine (words_any _).mono ?_; rintro e w1 ⟨rfl, rfl⟩
        go_wp2_with fail
        refine (AM.out w).mono ?_; rw [HD.out]; rintro e w1 ⟨rfl, rfl⟩
        go_wp2_with fail
        go_ret
        exact ⟨ret_bool (by rw [HV.out, HW.out]; simp), (Below.refl _ _).alloc (by simp) _⟩
end Go.Proofs.YtdbkchngpbahaaaDoor
