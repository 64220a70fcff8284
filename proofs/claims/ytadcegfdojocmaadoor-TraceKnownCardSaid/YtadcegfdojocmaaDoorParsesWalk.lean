/- The walk over TraceParses: whatever the text, it answers true. By an AI agent. -/
import Derived.Test.YtadcegfdojocmaaDoorTextsWalk
namespace Go.Proofs.YtadcegfdojocmaaDoor
open Go.RowKit

theorem pars_len {l : List UInt8} {X : List (Nat × Int)} (h : pars l = some X) : X.length ≤ l.length + 1 := by
  unfold pars at h
  by_cases hl : l = []
  · rw [if_pos hl] at h; injection h with h; subst h; simp
  · rw [if_neg hl] at h
    rw [parsL_len h]; exact splitB_len l

set_option maxHeartbeats 400000 in
theorem parses_big (s : ByteArray) (w : World) (henv : Env w) (h : 2000 < s.size) (hn : s.size ≤ 9223372036854775807) :
    Calls Tryd.prog 6 #[.string s] w fun e w' => e = .returned (.bool true) ∧ Below w.heap.size w w' := by
  have HENV := Lib.hid henv
  clear henv
  have hd : decide ((2000 : Int) < (s.size : Int)) = true := by simp; omega
  go_enter Tryd.func6, Tryd.ntmps6
  go_wp2_with (go_at_call 8; refine (works_any _ HENV.out).mono ?_; rintro e w1 ⟨rfl, hb⟩)
  go_ret
  exact ⟨rfl, hb⟩

set_option maxHeartbeats 1000000 in
theorem parses_none (s : ByteArray) (w : World) (henv : EnvP w) (hs : s.size ≤ 2000) (hp : pars s.data.toList = none) :
    Calls Tryd.prog 6 #[.string s] w fun e w' => e = .returned (.bool true) ∧ Below w.heap.size w w' := by
  have HENV := Lib.hid henv; have HP := Lib.hid hp
  clear henv hp
  have hd : decide ((2000 : Int) < (s.size : Int)) = false := by simp; omega
  go_enter Tryd.func6, Tryd.ntmps6
  go_wp2_with fail
  refine (parse_any s _ (by omega) HENV.out).mono ?_; rintro e w1 ⟨hout, hb1⟩
  rcases hout with ⟨X, v, hx, _⟩ | ⟨_, rfl⟩
  · rw [HP.out] at hx; cases hx
  go_wp2_with fail
  refine (rparse_any s _ (by omega)).mono ?_; rintro e w2 ⟨hout, hb2⟩
  rcases hout with ⟨X, v, hx, _⟩ | ⟨_, rfl⟩
  · rw [HP.out] at hx; cases hx
  go_wp2_with fail
  refine (same_v none none 0 0 0 0 (fun _ => 0) (fun _ => 0) (fun _ => 0) (fun _ => 0) true _ (by omega) (by omega) (Or.inl rfl) (Or.inl rfl) (sam_self 0 _ _)).mono ?_; rintro e w3 ⟨rfl, hb3⟩
  go_wp2_with fail
  refine (works_any _ (((HENV.out.env.below hb1).below hb2).below hb3)).mono ?_; rintro e w4 ⟨rfl, hb4⟩
  go_wp2_with fail
  go_ret
  exact ⟨rfl, below_next (below_next (below_next hb1 hb2) hb3) hb4⟩

theorem text_back (s : ByteArray) (X : List (Nat × Int)) (a : Option Addr) (c : Nat) (w : World) (henv : Env w) (hX : X.length ≤ 1000000) (h : EvS w a X.length (kOf X) (mOf X)) (hp : pars s.data.toList = some X) :
    Calls Tryd.prog 24 #[.slice a X.length c] w fun e w' => e = .returned (.tuple #[.string s, .int .i64 0]) ∧ Below w.heap.size w w' := by
  have h1 := text_any a X.length c (kOf X) (mOf X) w hX henv h (fun i hi => (pars_good _ _ hp i hi).2.2)
  rw [if_pos (by simpa [okText] using fun i hi => ⟨(pars_good _ _ hp i hi).1, (pars_good _ _ hp i hi).2.1⟩), text_pars _ _ hp, ← mk_list s] at h1
  exact h1

set_option maxHeartbeats 1000000 in
theorem parses_some (s : ByteArray) (X : List (Nat × Int)) (w : World) (henv : EnvP w) (hs : s.size ≤ 2000) (hp : pars s.data.toList = some X) :
    Calls Tryd.prog 6 #[.string s] w fun e w' => e = .returned (.bool true) ∧ Below w.heap.size w w' := by
  have hlen : X.length ≤ 2001 := by have := pars_len hp; rw [← Lib.size_eq] at this; omega
  have HENV := Lib.hid henv; have HP := Lib.hid hp
  clear henv hp
  have hd : decide ((2000 : Int) < (s.size : Int)) = false := by simp; omega
  go_enter Tryd.func6, Tryd.ntmps6
  go_wp2_with fail
  refine (parse_any s _ (by omega) HENV.out).mono ?_; rintro e w1 ⟨hout, hb1⟩
  rcases hout with ⟨X1, v, hx, rfl, hrow⟩ | ⟨hx, _⟩
  · obtain rfl : X1 = X := by rw [HP.out] at hx; injection hx with hx; exact hx.symm
    obtain ⟨A, cc, rfl, hev⟩ := ev_of_row hrow
    have HE1 := Lib.hid hev; have HB1 := Lib.hid hb1
    clear hev hrow hx hb1
    go_wp2_with fail
    refine (rparse_any s _ (by omega)).mono ?_; rintro e w2 ⟨hout, hb2⟩
    rcases hout with ⟨X2, v, hx, rfl, hrow⟩ | ⟨hx, _⟩
    · obtain rfl : X2 = X1 := by rw [HP.out] at hx; injection hx with hx; exact hx.symm
      obtain ⟨A', cc', rfl, hev⟩ := ev_of_row hrow
      have HE2 := Lib.hid hev; have HB2 := Lib.hid (below_next HB1.out hb2); have HE1' := Lib.hid (HE1.out.below hb2)
      clear hev hrow hx hb2
      go_wp2_with fail
      refine (same_v A A' X2.length X2.length cc cc' _ _ _ _ true _ (by omega) (by omega) HE1'.out HE2.out (sam_self _ _ _)).mono ?_; rintro e w3 ⟨rfl, hb3⟩
      have HB3 := Lib.hid (below_next HB2.out hb3); have HE3 := Lib.hid (HE1'.out.below hb3)
      clear hb3
      go_wp2_with fail
      refine (text_back s X2 A cc _ (HENV.out.env.below HB3.out) (by omega) HE3.out HP.out).mono ?_; rintro e w4 ⟨rfl, hb4⟩
      have HB4 := Lib.hid (below_next HB3.out hb4)
      clear hb4
      go_wp2_with fail
      refine (works_any _ (HENV.out.env.below HB4.out)).mono ?_; rintro e w5 ⟨rfl, hb5⟩
      go_wp2_with fail
      go_ret
      exact ⟨rfl, below_next HB4.out hb5⟩
    · rw [HP.out] at hx; cases hx
  · rw [HP.out] at hx; cases hx
end Go.Proofs.YtadcegfdojocmaaDoor
