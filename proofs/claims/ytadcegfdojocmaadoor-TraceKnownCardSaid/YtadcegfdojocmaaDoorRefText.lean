/- The walk over the reference's Text: the trace's text, or none. By an AI agent. -/
import Derived.Test.YtadcegfdojocmaaDoorWalkF
import Derived.Test.YtadcegfdojocmaaDoorDigits
namespace Go.Proofs.YtadcegfdojocmaaDoor
open Go.RowKit

theorem tjoin_snoc (L : List (List UInt8)) (x : List UInt8) : Lib.join (L ++ [x]) [32] = if L = [] then x else Lib.join L [32] ++ 32 :: x := by
  cases L with
  | nil => rw [List.nil_append, Lib.join_one, if_pos rfl]
  | cons y r =>
    rw [List.cons_append, Lib.join_cons, Lib.join_cons, if_neg (List.cons_ne_nil _ _)]
    simp [Lib.joinTail]
theorem textB_snoc (j : Nat) (k m : Nat → Int) : textB (j + 1) k m = if j = 0 then evB (k j) (m j) else textB j k m ++ 32 :: evB (k j) (m j) := by
  unfold textB
  rw [List.range_succ, List.map_append, List.map_singleton, tjoin_snoc]
  by_cases h : j = 0
  · subst h; simp
  · rw [if_neg h, if_neg (by simpa using h)]
theorem digits_q (n : Int) (h0 : -9223372036854775808 ≤ n) (h1 : n ≤ 9223372036854775807) (w : World) :
    Calls Tryd.prog 36 #[.int .i64 n] w fun e w' => e = .returned (.string ⟨(Lib.itoa n).toArray⟩) ∧ w' = w := (digits_any n h0 h1 w).mono fun _ _ ⟨h, h'⟩ => ⟨h, h'.symm⟩
/-- The text before the event at j. -/
def preB (j : Nat) (k m : Nat → Int) : List UInt8 := if j = 0 then [] else textB j k m ++ [32]
theorem textB_step (j : Nat) (k m : Nat → Int) : textB (j + 1) k m = preB j k m ++ evB (k j) (m j) := by
  rw [textB_snoc]; unfold preB
  by_cases h : j = 0 <;> simp [h]
theorem ret_str {a b : List UInt8} {c : Value} (h : a = b) : Ending.returned (.tuple #[.string ⟨a.toArray⟩, c]) = .returned (.tuple #[.string ⟨b.toArray⟩, c]) := by rw [h]

theorem mk_list (s : ByteArray) : s = ⟨s.data.toList.toArray⟩ := by ext1; simp

set_option maxRecDepth 100000 in
set_option maxHeartbeats 4000000 in
theorem rtext_go (b o n c : Nat) (k m : Nat → Int) (w : World) (hn : n ≤ 200)
    (hk : ∀ i, i < n → w.cell? ⟨b, o + i * 2, none⟩ = some (.int .u8 (k i))) (hm : ∀ i, i < n → w.cell? ⟨b, o + i * 2 + 1, none⟩ = some (.int .i64 (m i)))
    (hr2 : ∀ i, i < n → -9223372036854775808 ≤ m i ∧ m i ≤ 9223372036854775807) (hok : ∀ i, i < n → 1 ≤ k i ∧ k i ≤ 4) :
    Calls Tryd.prog 25 #[.slice (some ⟨b, o, none⟩) n c] w fun e w' => e = .returned (.tuple #[.string ⟨(textB n k m).toArray⟩, .bool true]) ∧ Below w.heap.size w w' := by
  have HK := Lib.hid hk; have HM := Lib.hid hm; have HR := Lib.hid hr2; have HO := Lib.hid hok
  clear hk hm hr2 hok
  go_enter Tryd.func25, Tryd.ntmps25
  go_wp2_with fail
  go_loopw [4, 5] (fun s i wr => ∃ (j : Nat) (sp : List UInt8), j ≤ n ∧ i = .int .i64 j ∧ s = .string ⟨sp.toArray⟩ ∧ sp.length ≤ 23 * j ∧ Below w.heap.size w wr ∧ Hid (sp = textB j k m)) (fun _ i _ => n - (intOf i).toNat)
  case atStart => exact ⟨0, [], Nat.zero_le _, rfl, rfl, by simp, Below.refl _ _, Lib.hid rfl⟩
  case round =>
    obtain ⟨j, sp, hj, rfl, rfl, hsl, hb, HSP⟩ := hrel
    by_cases hlt : j < n
    · have e0 := cell_later hb (HK.out j hlt)
      have e1 := cell_later hb (HM.out j hlt)
      have HB := Lib.hid hb
      clear hb
      have hmr := HR.out j hlt
      have hkr := HO.out j hlt
      have hlen := Lib.itoa_length_le (m j) hmr.1 hmr.2
      have hts := textB_step j k m
      have HTS := Lib.hid hts; clear hts
      obtain ⟨κ, hκ⟩ : ∃ κ, k j = κ := ⟨_, rfl⟩
      rw [hκ] at e0 hkr
      have HKJ := Lib.hid hκ; clear hκ
      have h4 : κ = 1 ∨ κ = 2 ∨ κ = 3 ∨ κ = 4 := by omega
      clear hkr
      have w0 : IntKind.u8.wrap 0 = 0 := by decide
      have w1 : IntKind.u8.wrap 1 = 1 := by decide
      have w2 : IntKind.u8.wrap 2 = 2 := by decide
      have w3 : IntKind.u8.wrap 3 = 3 := by decide
      have a0 : ¬ 9223372036854775807 < sp.length + 1 := by omega
      have a1 : ¬ 9223372036854775807 < sp.length + 1 + 1 := by omega
      have a2 : ¬ 9223372036854775807 < sp.length + 1 + 1 + (Lib.itoa (m j)).length := by omega
      have a3 : ¬ 9223372036854775807 < sp.length + 1 + (Lib.itoa (m j)).length := by omega
      rcases h4 with rfl | rfl | rfl | rfl
      all_goals
        by_cases hj0 : 0 < j
        · have hj1 : decide ((0 : Int) < (j : Int)) = true := by simp; omega
          go_wp2_with fail
          go_quiet ((go_at_call 36; exact Calls.quiet_of_same (digits_q (m j) hmr.1 hmr.2 _)))
          go_wp2_with fail
          refine ⟨⟨j + 1, sp ++ 32 :: evB (k j) (m j), by omega, by go_num, ?_, ?_, HB.out.trans ((below_drewN _ _).mono HB.out.size), ?_⟩, by simp [intOf]; omega⟩
          · rw [HKJ.out]; congr 1; ext1; simp [evB, letterB]
          · have := evB_short (k j) (m j) hmr.1 hmr.2; simp; omega
          · refine Lib.hid ?_
            rw [HTS.out]; unfold preB; rw [if_neg (by omega), ← HSP.out]; simp
        · have hj1 : decide ((0 : Int) < (j : Int)) = false := by simp; omega
          go_wp2_with fail
          go_quiet ((go_at_call 36; exact Calls.quiet_of_same (digits_q (m j) hmr.1 hmr.2 _)))
          go_wp2_with fail
          refine ⟨⟨j + 1, sp ++ evB (k j) (m j), by omega, by go_num, ?_, ?_, HB.out.trans ((below_drewN _ _).mono HB.out.size), ?_⟩, by simp [intOf]; omega⟩
          · rw [HKJ.out]; congr 1; ext1; simp [evB, letterB]
          · have := evB_short (k j) (m j) hmr.1 hmr.2; simp; omega
          · refine Lib.hid ?_
            obtain rfl : j = 0 := by omega
            have hsp := HSP.out
            have h0 : textB 0 k m = [] := rfl
            rw [h0] at hsp
            rw [HTS.out, hsp]; rfl
    · obtain rfl : j = n := by omega
      go_wp2_with fail
      go_ret2
      have hs := HSP.out
      subst hs
      exact ⟨rfl, hb⟩

set_option maxRecDepth 100000 in
set_option maxHeartbeats 4000000 in
/-- The first event of no kind, at p: none. -/
theorem rtext_bad (b o n c p : Nat) (k m : Nat → Int) (w : World) (hn : n ≤ 200)
    (hk : ∀ i, i < n → w.cell? ⟨b, o + i * 2, none⟩ = some (.int .u8 (k i))) (hm : ∀ i, i < n → w.cell? ⟨b, o + i * 2 + 1, none⟩ = some (.int .i64 (m i)))
    (hr2 : ∀ i, i < n → -9223372036854775808 ≤ m i ∧ m i ≤ 9223372036854775807) (hp : p < n) (hbad : ¬ (1 ≤ k p ∧ k p ≤ 4)) (hok : ∀ i, i < p → 1 ≤ k i ∧ k i ≤ 4) :
    Calls Tryd.prog 25 #[.slice (some ⟨b, o, none⟩) n c] w fun e w' => e = .returned (.tuple #[.string ⟨#[]⟩, .bool false]) ∧ Below w.heap.size w w' := by
  have HK := Lib.hid hk; have HM := Lib.hid hm; have HR := Lib.hid hr2; have HO := Lib.hid hok; have HBAD := Lib.hid hbad
  clear hk hm hr2 hok hbad
  go_enter Tryd.func25, Tryd.ntmps25
  go_wp2_with fail
  go_loopw [4, 5] (fun s i wr => ∃ (j : Nat) (sp : List UInt8), j ≤ p ∧ i = .int .i64 j ∧ s = .string ⟨sp.toArray⟩ ∧ sp.length ≤ 23 * j ∧ Below w.heap.size w wr) (fun _ i _ => n - (intOf i).toNat)
  case atStart => exact ⟨0, [], Nat.zero_le _, rfl, rfl, by simp, Below.refl _ _⟩
  case round =>
    obtain ⟨j, sp, hj, rfl, rfl, hsl, hb⟩ := hrel
    have hjn : j < n := by omega
    have e0 := cell_later hb (HK.out j hjn)
    have e1 := cell_later hb (HM.out j hjn)
    have hmr := HR.out j hjn
    have HB := Lib.hid hb
    clear hb
    by_cases hlt : j < p
    · have hkr := HO.out j hlt
      have hlen := Lib.itoa_length_le (m j) hmr.1 hmr.2
      obtain ⟨κ, hκ⟩ : ∃ κ, k j = κ := ⟨_, rfl⟩
      rw [hκ] at e0 hkr
      clear hκ
      have h4 : κ = 1 ∨ κ = 2 ∨ κ = 3 ∨ κ = 4 := by omega
      clear hkr
      have w0 : IntKind.u8.wrap 0 = 0 := by decide
      have w1 : IntKind.u8.wrap 1 = 1 := by decide
      have w2 : IntKind.u8.wrap 2 = 2 := by decide
      have w3 : IntKind.u8.wrap 3 = 3 := by decide
      have a0 : ¬ 9223372036854775807 < sp.length + 1 := by omega
      have a1 : ¬ 9223372036854775807 < sp.length + 1 + 1 := by omega
      have a2 : ¬ 9223372036854775807 < sp.length + 1 + 1 + (Lib.itoa (m j)).length := by omega
      have a3 : ¬ 9223372036854775807 < sp.length + 1 + (Lib.itoa (m j)).length := by omega
      rcases h4 with rfl | rfl | rfl | rfl
      all_goals
        by_cases hj0 : 0 < j
        · have hj1 : decide ((0 : Int) < (j : Int)) = true := by simp; omega
          go_wp2_with fail
          go_quiet ((go_at_call 36; exact Calls.quiet_of_same (digits_q (m j) hmr.1 hmr.2 _)))
          go_wp2_with fail
          refine ⟨⟨j + 1, _, by omega, by go_num, congrArg Value.string (mk_list _), ?_, HB.out.trans ((below_drewN _ _).mono HB.out.size)⟩, by simp [intOf]; omega⟩
          simp; omega
        · have hj1 : decide ((0 : Int) < (j : Int)) = false := by simp; omega
          go_wp2_with fail
          go_quiet ((go_at_call 36; exact Calls.quiet_of_same (digits_q (m j) hmr.1 hmr.2 _)))
          go_wp2_with fail
          refine ⟨⟨j + 1, _, by omega, by go_num, congrArg Value.string (mk_list _), ?_, HB.out.trans ((below_drewN _ _).mono HB.out.size)⟩, by simp [intOf]; omega⟩
          simp; omega
    · obtain rfl : j = p := by omega
      obtain ⟨κ, hκ⟩ : ∃ κ, k j = κ := ⟨_, rfl⟩
      have hbd := HBAD.out
      rw [hκ] at e0 hbd
      clear hκ
      by_cases h1 : κ < 1
      · have h1' : decide (κ < 1) = true := by simpa using h1
        clear hbd
        go_wp2_with fail
        go_ret2
        exact ⟨rfl, HB.out⟩
      · have h1' : decide (κ < 1) = false := by simpa using h1
        have h4' : decide (4 < κ) = true := by simp; omega
        clear hbd
        go_wp2_with fail
        go_ret2
        exact ⟨rfl, HB.out⟩

set_option maxHeartbeats 400000 in
theorem rtext_zero (a : Option Addr) (c : Nat) (k m : Nat → Int) (w : World) :
    Calls Tryd.prog 25 #[.slice a 0 c] w fun e w' => e = .returned (.tuple #[.string ⟨(textB 0 k m).toArray⟩, .bool true]) ∧ Below w.heap.size w w' := by
  go_enter Tryd.func25, Tryd.ntmps25
  go_wp2_with fail
  refine wp_loop_rounds 1 ?_
  rw [rounds_succ]
  go_wp2_with fail
  go_ret2
  exact ⟨rfl, Below.refl _ _⟩

theorem rtext_any (a : Option Addr) (n c : Nat) (k m : Nat → Int) (w : World) (hn : n ≤ 200) (h : EvS w a n k m)
    (hr2 : ∀ i, i < n → -9223372036854775808 ≤ m i ∧ m i ≤ 9223372036854775807) :
    Calls Tryd.prog 25 #[.slice a n c] w fun e w' => e = .returned (if okText n k then .tuple #[.string ⟨(textB n k m).toArray⟩, .bool true] else .tuple #[.string ⟨#[]⟩, .bool false]) ∧ Below w.heap.size w w' := by
  by_cases ho : ∀ i, i < n → 1 ≤ k i ∧ k i ≤ 4
  · rw [if_pos (by simpa [okText] using ho)]
    rcases h with rfl | ⟨b, o, rfl, h1, h2⟩
    · exact rtext_zero a c k m w
    · exact rtext_go b o n c k m w hn h1 h2 hr2 ho
  · rw [if_neg (by simpa [okText] using ho)]
    obtain ⟨p, hp, hbad, hr⟩ := first_not n (fun i => 1 ≤ k i ∧ k i ≤ 4) (Classical.byContradiction fun hh => ho (fun i hi => Classical.byContradiction fun hq => hh ⟨i, hi, hq⟩))
    rcases h with rfl | ⟨b, o, rfl, h1, h2⟩
    · omega
    · exact rtext_bad b o n c p k m w hn h1 h2 hr2 hp hbad hr
end Go.Proofs.YtadcegfdojocmaaDoor
