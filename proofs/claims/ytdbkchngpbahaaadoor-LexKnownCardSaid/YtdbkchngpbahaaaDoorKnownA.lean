/- Small steps towards LexKnown: Lex past its limit; blanks alone; the statements' contracts as one sees them from LexKnown. By an AI agent. -/
import Derived.Test.YtdbkchngpbahaaaDoorSpelledNone
import Derived.Test.YtdbkchngpbahaaaDoorTellsWalk
import Derived.Test.YtdbkchngpbahaaaDoorNamesWalk
import Derived.ArgAppend
namespace Go.Proofs.YtdbkchngpbahaaaDoor
open Go.RowKit

set_option maxHeartbeats 400000 in
theorem lex_limit (a : Option Addr) (n c : Nat) (w : World) (h : 65536 < n) :
    Calls Tryd.prog 10 #[.slice a n c] w fun e w' => e = .returned (.tuple #[.slice none 0 0, .int .i64 0, .int .i64 3]) ∧ w = w' := by
  have h1 : (65536 : Int) < (n : Int) := by omega
  clear h
  go_enter Tryd.func10, Tryd.ntmps10
  go_wp2_with fail
  go_ret3
  exact ⟨rfl, rfl⟩
theorem lx_blanks_all (n p : Nat) : lx (List.replicate n 32) p = .ok [⟨5, [], 0, p + n⟩] := by
  induction n generalizing p with
  | zero => exact lx_nil p
  | succ n ih =>
    rw [List.replicate_succ, lx_blk (by decide), ih]
    rw [show p + 1 + n = p + (n + 1) by omega]

/-- A converted string, as the four statements see it. -/
theorem conv_cap (w : World) (s : ByteArray) (h : s.size ≤ 1000) : s.size ≤ grownCap w s.size 0 5 ∧ grownCap w s.size 0 5 ≤ 9223372036854775807 :=
  ⟨grownCap_ge w _ _ _, by have := grownCap_le_maxLen w s.size 0 5 (by unfold maxLen; omega); unfold maxLen at this; omega⟩
theorem k_tells (a : Option Addr) (n c : Nat) (l : List UInt8) (w : World) (hl : l.length = n) (hn : n ≤ 200) (hw : EW w) (ha : BytS w a l) :
    Calls Tryd.prog 3 #[.slice a n c] w fun e w' => e = .returned (.bool true) ∧ Below w.heap.size w w' := by
  subst hl; exact ltells_small a c l w hw (by omega) ha
theorem k_spelled (a : Option Addr) (n c : Nat) (l : List UInt8) (w : World) (hl : l.length = n) (hn : n ≤ 200) (hc : n ≤ c) (hm : c ≤ 9223372036854775807) (hs : a ≠ none) (hw : EW w) (ha : BytS w a l) :
    Calls Tryd.prog 4 #[.slice a n c] w fun e w' => e = .returned (.bool true) ∧ Below w.heap.size w w' := by
  subst hl
  cases hA : lexS l with
  | error x => obtain ⟨p, er⟩ := x; exact spelled_bad a c l p er w hw (by omega) ha hA
  | ok ts =>
    rcases ha with ⟨rfl, _⟩ | ⟨b, o, rfl, hcell⟩
    · exact spelled_none a c w hw (fun h => absurd h hs)
    · exact spelled_some b o c l ts w hw (by omega) hc hm hcell hA
theorem k_names (s : ByteArray) (w : World) (hn : s.size ≤ 200) (hw : EW w) :
    Calls Tryd.prog 7 #[.string s, .slice none 0 0] w fun e w' => e = .returned (.bool true) ∧ Below w.heap.size w w' :=
  names_none s none 0 w hw hn
theorem k_blanks (a : Option Addr) (n c : Nat) (l : List UInt8) (wh bl : Int) (w : World) (hl : l.length = n) (hn : n ≤ 200) (hc : n ≤ c) (hm : c ≤ 9223372036854775807) (hs : a ≠ none) (h1 : 0 ≤ wh ∧ wh ≤ 65535) (h2 : 0 ≤ bl ∧ bl ≤ 255) (hw : EW w) (ha : BytS w a l) :
    Calls Tryd.prog 5 #[.slice a n c, .int .u16 wh, .int .u8 bl] w fun e w' => e = .returned (.bool true) ∧ Below w.heap.size w w' := by
  subst hl
  obtain ⟨wn, rfl⟩ := Int.eq_ofNat_of_zero_le h1.1
  obtain ⟨bn, rfl⟩ := Int.eq_ofNat_of_zero_le h2.1
  exact blanks_small a c l wn bn w hw (by omega) hc hm (by omega) (by omega) ha (fun h => absurd h hs)
end Go.Proofs.YtdbkchngpbahaaaDoor
