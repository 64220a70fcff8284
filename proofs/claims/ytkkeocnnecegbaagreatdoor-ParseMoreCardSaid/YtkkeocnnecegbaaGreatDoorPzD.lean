/- The walk over ParseMore: the arms that end early. By an AI agent. -/
import Derived.Test.YtkkeocnnecegbaaGreatDoorJG
import Derived.Test.YtkkeocnnecegbaaGreatDoorPMoreT
namespace Go.Proofs.YtkkeocnnecegbaaGreatDoor
open Go.RowKit

set_option maxRecDepth 100000 in
set_option maxHeartbeats 8000000 in
theorem pmore_big (A B : Option Addr) (n m c d : Nat) (w : World) (he : EnvP w) (h : 700 < n ∨ 700 < m) :
    Calls Tryz.prog 5 #[.slice A n c, .slice B m d] w fun e w' => e = .returned (.bool true) ∧ Below w.heap.size w w' := by
  have HE := Lib.hid he
  clear he
  by_cases h1 : 700 < n
  · have e1 : (700 : Int) < (n : Int) := by omega
    clear h h1
    go_enter Tryz.func5, Tryz.ntmps5
    go_wp2_with fail
    refine (works_good HE.out).mono ?_
    rintro e w2 ⟨rfl, hb2⟩
    have HB2 := Lib.hid hb2
    clear hb2
    go_wp2_with fail
    go_ret
    exact ⟨rfl, HB2.out⟩
  · have e1 : ¬ (700 : Int) < (n : Int) := by omega
    have e2 : (700 : Int) < (m : Int) := by omega
    clear h h1
    go_enter Tryz.func5, Tryz.ntmps5
    go_wp2_with fail
    refine (works_good HE.out).mono ?_
    rintro e w2 ⟨rfl, hb2⟩
    have HB2 := Lib.hid hb2
    clear hb2
    go_wp2_with fail
    go_ret
    exact ⟨rfl, HB2.out⟩

/-- What one call of Parse leaves, whichever way. -/
def ParseAny (src : List UInt8) (w' : World) (e : Ending) : Prop := (∃ p er, parseS src = .error (p, er) ∧ e = .returned (.tuple #[.agg #[.slice none 0 0], .int .i64 (p : Nat), .int .i64 er])) ∨ (∃ x A1 n1 c1, parseS src = .ok x ∧ e = .returned (.tuple #[.agg #[.slice A1 n1 c1], .int .i64 0, .int .i64 0]) ∧ PT w' A1 n1 x (2 * src.length + 1))
theorem parse_both (A : Option Addr) (c : Nat) (src : List UInt8) (w : World) (hn : src.length ≤ 65536) (hl : BytS w A src) (he : EnvP w) :
    Calls Tryz.prog 24 #[.slice A src.length c] w fun e w' => ParseAny src w' e ∧ Below w.heap.size w w' := by
  cases h : parseS src with
  | error q => exact (parse_bad A c src q.1 q.2 w hn hl he h).mono (fun e w' ⟨h1, h2⟩ => ⟨Or.inl ⟨q.1, q.2, h, h1⟩, h2⟩)
  | ok x => exact (parse_good A c src x w hn hl he h).mono (fun e w' ⟨⟨A1, n1, c1, h1, h2⟩, h3⟩ => ⟨Or.inr ⟨x, A1, n1, c1, h, h1, h2⟩, h3⟩)

set_option maxRecDepth 100000 in
set_option maxHeartbeats 16000000 in
theorem pmore_bad (A B : Option Addr) (c d : Nat) (a b : List UInt8) (w : World) (hna : a.length ≤ 700) (hnb : b.length ≤ 700) (ha : BytS w A a) (hb : BytS w B b) (he : EnvP w) (h : (∃ q, parseS a = .error q) ∨ (∃ q, parseS b = .error q)) :
    Calls Tryz.prog 5 #[.slice A a.length c, .slice B b.length d] w fun e w' => e = .returned (.bool true) ∧ Below w.heap.size w w' := by
  have HC1 := Lib.hid (parse_both A c a w (by omega) ha he)
  have HC2 := Lib.hid (fun W (hW : Below w.heap.size w W) => parse_both B d b W (by omega) (hb.below hW) (he.below hW))
  have HE := Lib.hid he; have HH := Lib.hid h
  have e1 : ¬ (700 : Int) < (a.length : Int) := by omega
  have e2 : ¬ (700 : Int) < (b.length : Int) := by omega
  obtain ⟨n, hn⟩ : ∃ n, n = a.length := ⟨_, rfl⟩
  obtain ⟨m, hm⟩ : ∃ m, m = b.length := ⟨_, rfl⟩
  rw [← hn] at HC1 e1 ⊢
  rw [← hm] at HC2 e2 ⊢
  clear hna hnb ha hb he h hn hm
  go_enter Tryz.func5, Tryz.ntmps5
  go_wp2_with fail
  refine HC1.out.mono ?_
  rintro e w1 ⟨ho1, hb1⟩
  have HB1 := Lib.hid hb1
  clear hb1
  rcases ho1 with ⟨p, er, hp, rfl⟩ | ⟨x, A1, n1, c1, hp, rfl, _⟩
  · have e3 : (er != 0) = true := by rcases parse_code hp with rfl | rfl | rfl | rfl <;> rfl
    have HB1' := Lib.hid (below_next HB1.out ((Below.refl _ _).alloc (Nat.le_refl _) (.cells #[.slice none 0 0] 24)))
    clear hp HH
    go_wp2_with fail
    refine (HC2.out _ HB1'.out).mono ?_
    rintro e w2 ⟨ho2, hb2⟩
    have HB2 := Lib.hid (below_next HB1'.out hb2)
    clear hb2
    rcases ho2 with ⟨p2, er2, _, rfl⟩ | ⟨y, A2, n2, c2, _, rfl, _⟩
    · have HB3 := Lib.hid (below_next HB2.out ((Below.refl _ _).alloc (Nat.le_refl _) (.cells #[.slice none 0 0] 24)))
      go_wp2_with fail
      refine (works_good (HE.out.below HB3.out)).mono ?_
      rintro e w4 ⟨rfl, hb4⟩
      have HB4 := Lib.hid (below_next HB3.out hb4)
      clear hb4
      go_wp2_with fail
      go_ret
      exact ⟨rfl, HB4.out⟩
    · have HB3 := Lib.hid (below_next HB2.out ((Below.refl _ _).alloc (Nat.le_refl _) (.cells #[.slice A2 n2 c2] 24)))
      go_wp2_with fail
      refine (works_good (HE.out.below HB3.out)).mono ?_
      rintro e w4 ⟨rfl, hb4⟩
      have HB4 := Lib.hid (below_next HB3.out hb4)
      clear hb4
      go_wp2_with fail
      go_ret
      exact ⟨rfl, HB4.out⟩
  · have hq : ∃ q, parseS b = .error q := by
      rcases HH.out with ⟨q, hq⟩ | h
      · rw [hp] at hq; cases hq
      · exact h
    have HQ := Lib.hid hq
    have HB1' := Lib.hid (below_next HB1.out ((Below.refl _ _).alloc (Nat.le_refl _) (.cells #[.slice A1 n1 c1] 24)))
    clear hp HH hq
    go_wp2_with fail
    refine (HC2.out _ HB1'.out).mono ?_
    rintro e w2 ⟨ho2, hb2⟩
    have HB2 := Lib.hid (below_next HB1'.out hb2)
    clear hb2
    rcases ho2 with ⟨p2, er2, hp2, rfl⟩ | ⟨y, A2, n2, c2, hp2, rfl, _⟩
    · have HB3 := Lib.hid (below_next HB2.out ((Below.refl _ _).alloc (Nat.le_refl _) (.cells #[.slice none 0 0] 24)))
      have e3 : (er2 != 0) = true := by rcases parse_code hp2 with rfl | rfl | rfl | rfl <;> rfl
      clear hp2
      go_wp2_with fail
      refine (works_good (HE.out.below HB3.out)).mono ?_
      rintro e w4 ⟨rfl, hb4⟩
      have HB4 := Lib.hid (below_next HB3.out hb4)
      clear hb4
      go_wp2_with fail
      go_ret
      exact ⟨rfl, HB4.out⟩
    · obtain ⟨q, hq⟩ := HQ.out
      rw [hp2] at hq; cases hq
end Go.Proofs.YtkkeocnnecegbaaGreatDoor
