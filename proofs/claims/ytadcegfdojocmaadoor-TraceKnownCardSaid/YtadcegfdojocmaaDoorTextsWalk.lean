/- The walk over TraceTexts: whatever the trace, it answers true. By an AI agent. -/
import Derived.Test.YtadcegfdojocmaaDoorTellsWalk
import Derived.Test.YtadcegfdojocmaaDoorRParse
namespace Go.Proofs.YtadcegfdojocmaaDoor
open Go.RowKit

theorem evRow_eq (X : List (Nat × Int)) : evRow X = evCells X.length (kOf X) (mOf X) := by
  unfold evRow evCells
  have : X = (List.range X.length).map (fun i => X[i]?.getD (0, 0)) := by
    apply List.ext_getElem
    · simp
    · intro i h1 h2; simp [h1]
  conv => lhs; rw [this]
  rw [List.flatMap_map]
  rfl
theorem EvS.congr {w : World} {A : Option Addr} {n : Nat} {k m k' m' : Nat → Int} (h : EvS w A n k m) (hk : ∀ i, i < n → k i = k' i) (hm : ∀ i, i < n → m i = m' i) : EvS w A n k' m' := by
  rcases h with h | ⟨b, o, e, h1, h2⟩
  · exact Or.inl h
  · exact Or.inr ⟨b, o, e, fun i hi => hk i hi ▸ h1 i hi, fun i hi => hm i hi ▸ h2 i hi⟩
/-- A row of events that Parse has made reads as them. -/
theorem ev_of_row {w : World} {B : Nat} {v : Value} {X : List (Nat × Int)} (h : w.ownsRow B 44 2 v X.length (evRow X)) : ∃ A c, v = .slice A X.length c ∧ EvS w A X.length (kOf X) (mOf X) := by
  obtain ⟨A, c, rfl⟩ := own_form h
  rw [evRow_eq] at h
  exact ⟨A, c, rfl, EvS.of_own h⟩
theorem evL_len (n : Nat) (k m : Nat → Int) : (evL n k m).length = n := by simp [evL]
theorem evL_k (n : Nat) (k m : Nat → Int) (i : Nat) (hi : i < n) (h0 : 0 ≤ k i) : kOf (evL n k m) i = k i := by
  simp [kOf, evL, hi]; omega
theorem evL_m (n : Nat) (k m : Nat → Int) (i : Nat) (hi : i < n) : mOf (evL n k m) i = m i := by
  simp [mOf, evL, hi]

set_option maxHeartbeats 400000 in
theorem texts_big (a : Option Addr) (n c : Nat) (w : World) (henv : Env w) (h : 200 < n) (hn : (n : Int) ≤ 9223372036854775807) :
    Calls Tryd.prog 5 #[.slice a n c] w fun e w' => e = .returned (.bool true) ∧ Below w.heap.size w w' := by
  have HENV := Lib.hid henv
  clear henv
  have hd : decide ((200 : Int) < (n : Int)) = true := by simp; omega
  go_enter Tryd.func5, Tryd.ntmps5
  go_wp2_with (go_at_call 8; refine (works_any _ HENV.out).mono ?_; rintro e w1 ⟨rfl, hb⟩)
  go_ret
  exact ⟨rfl, hb⟩

set_option maxHeartbeats 1000000 in
theorem texts_none (a : Option Addr) (n c : Nat) (k m : Nat → Int) (w : World) (henv : EnvP w) (hn : n ≤ 200) (h : EvS w a n k m) (hr2 : ∀ i, i < n → i64ok (m i)) (hok : okText n k = false) :
    Calls Tryd.prog 5 #[.slice a n c] w fun e w' => e = .returned (.bool true) ∧ Below w.heap.size w w' := by
  have h1 := text_any a n c k m w (by omega) henv.env h hr2
  rw [if_neg (by rw [hok]; decide)] at h1
  have h2 := fun w' (hb : Below w.heap.size w w') => rtext_any a n c k m w' hn (h.below hb) hr2
  rw [hok] at h2
  have H1 := Lib.hid h1; have H2 := Lib.hid h2; have HENV := Lib.hid henv
  clear h1 h2 henv h hr2 hok
  have hd : decide ((200 : Int) < (n : Int)) = false := by simp; omega
  go_enter Tryd.func5, Tryd.ntmps5
  go_wp2_with fail
  refine H1.out.mono ?_; rintro e w1 ⟨rfl, hb1⟩
  go_wp2_with fail
  refine (H2.out _ hb1).mono ?_; rintro e w2 ⟨rfl, hb2⟩
  go_wp2_with fail
  refine (works_any _ ((HENV.out.env.below hb1).below hb2)).mono ?_; rintro e w3 ⟨rfl, hb3⟩
  go_wp2_with fail
  go_ret
  exact ⟨rfl, below_next (below_next hb1 hb2) hb3⟩

set_option maxHeartbeats 2000000 in
theorem texts_ok (a : Option Addr) (n c : Nat) (k m : Nat → Int) (w : World) (henv : EnvP w) (hn : n ≤ 200) (h : EvS w a n k m) (hr2 : ∀ i, i < n → i64ok (m i)) (hok : okText n k = true) :
    Calls Tryd.prog 5 #[.slice a n c] w fun e w' => e = .returned (.bool true) ∧ Below w.heap.size w w' := by
  have hkk : ∀ i, i < n → 1 ≤ k i ∧ k i ≤ 4 := by simpa [okText] using hok
  have h1 := text_any a n c k m w (by omega) henv.env h hr2
  rw [if_pos hok] at h1
  have h2 := fun w' (hb : Below w.heap.size w w') => rtext_any a n c k m w' hn (h.below hb) hr2
  rw [hok] at h2
  have hlen := textB_le n k m hr2
  have h3 := fun w' (hb : Below w.heap.size w w') => parse_any ⟨(textB n k m).toArray⟩ w' (by rw [Lib.size_eq]; simp; omega) (henv.below hb)
  have hp := pars_text n k m hkk hr2
  have HKK := Lib.hid hkk; have H1 := Lib.hid h1; have H2 := Lib.hid h2; have H3 := Lib.hid h3; have HENV := Lib.hid henv; have HP := Lib.hid hp; have HEV := Lib.hid h
  clear h1 h2 h3 hp henv h hr2 hok hkk hlen
  obtain ⟨T, hT⟩ : ∃ T, T = textB n k m := ⟨_, rfl⟩
  rw [← hT] at H1 H2 H3 HP
  clear hT
  have hd : decide ((200 : Int) < (n : Int)) = false := by simp; omega
  go_enter Tryd.func5, Tryd.ntmps5
  go_wp2_with fail
  refine H1.out.mono ?_; rintro e w1 ⟨rfl, hb1⟩
  go_wp2_with fail
  refine (H2.out _ hb1).mono ?_; rintro e w2 ⟨rfl, hb2⟩
  go_wp2_with fail
  refine (H3.out _ (below_next hb1 hb2)).mono ?_; rintro e w3 ⟨hout, hb3⟩
  rcases hout with ⟨X, v, hx, rfl, hrow⟩ | ⟨hx, _⟩
  · have hX : X = evL n k m := by have := HP.out; rw [hx] at this; injection this
    obtain ⟨A, cc, rfl, hev⟩ := ev_of_row hrow
    rw [show X.length = n by rw [hX, evL_len]] at hev ⊢
    have hev2 : EvS w3 A n k m := hev.congr (fun i hi => by rw [hX]; exact evL_k n k m i hi (by have := HKK.out i hi; omega)) (fun i hi => by rw [hX]; exact evL_m n k m i hi)
    have HE2 := Lib.hid hev2
    clear hev hev2 hrow hX hx
    have hb123 := below_next (below_next hb1 hb2) hb3
    have HB123 := Lib.hid hb123
    clear hb123 hb1 hb2 hb3
    go_wp2_with fail
    refine (same_v A a n n cc c k m k m true _ (by omega) (by omega) HE2.out (HEV.out.below HB123.out) (sam_self n k m)).mono ?_; rintro e w4 ⟨rfl, hb4⟩
    go_wp2_with fail
    refine (works_any _ ((HENV.out.env.below HB123.out).below hb4)).mono ?_; rintro e w5 ⟨rfl, hb5⟩
    go_wp2_with fail
    go_ret
    exact ⟨rfl, below_next (below_next HB123.out hb4) hb5⟩
  · have := HP.out; rw [hx] at this; cases this
end Go.Proofs.YtadcegfdojocmaaDoor
