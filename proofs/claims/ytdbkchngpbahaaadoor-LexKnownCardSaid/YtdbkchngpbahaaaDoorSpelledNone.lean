/- The walk over LexSpelled at the empty source. By an AI agent. -/
import Derived.Test.YtdbkchngpbahaaaDoorSpelledWalk
namespace Go.Proofs.YtdbkchngpbahaaaDoor
open Go.RowKit

def endT : List Tok := [⟨5, [], 0, 0⟩]
theorem end_lex : lexS [] = .ok endT := rfl
theorem end_len : endT.length = 1 := rfl
theorem end_spell : spellL endT = [] := by simp [endT, spellL, texts, good, Lib.join_nil]
set_option maxRecDepth 100000 in
set_option maxHeartbeats 16000000 in
theorem spelled_none (a : Option Addr) (ca : Nat) (w : World) (hw : EW w) (hnil : a = none → ca = 0) :
    Calls Tryd.prog 4 #[.slice a 0 ca] w fun e w' => e = .returned (.bool true) ∧ Below w.heap.size w w' := by
  have HW := Lib.hid hw
  have HLA := Lib.hid (lex_ok a ca [] endT w (by decide) (Or.inl ⟨rfl, trivial⟩) HW.out end_lex)
  rw [end_len, List.length_nil] at HLA
  have HNIL := Lib.hid hnil
  clear hw hnil
  go_enter Tryd.func4, Tryd.ntmps4
  go_wp2_with fail
  refine HLA.out.mono ?_; rintro e w1 ⟨AX, cx, rfl, htx, hb1⟩
  have HTX := Lib.hid htx
  have HB1 := Lib.hid hb1
  clear htx hb1 HLA
  go_wp2_with fail
  refine (spell_v AX 1 cx endT ⟨#[]⟩ _ rfl (by decide) (by rw [end_spell]; decide) HTX.out (by rw [end_spell])).mono ?_; rintro e w2 ⟨rfl, hb2⟩
  have HB2 := Lib.hid (below_next HB1.out hb2)
  have HTX2 := Lib.hid (HTX.out.below hb2)
  have kS := Lib.run_convert_string_bytes (P := Tryd.prog) w2 9 22 5 ⟨#[]⟩ (u := .string) Tryd.underlying9 Tryd.underlying22 Tryd.underlying5
  rw [show ({ data := #[] } : ByteArray).size = 0 from rfl] at kS
  clear hb2 HTX
  go_wp2_with fail
  refine (third_ok w2 ⟨#[]⟩ [] 0 _ endT rfl rfl (by omega) (HW.out.below HB2.out) end_lex).mono ?_; rintro e w3 ⟨AZ, cz, rfl, htz, hb3⟩
  rw [end_len]
  have HB3 := Lib.hid (below_next HB2.out hb3)
  obtain ⟨bx, ox, rfl, hx⟩ := toks_block (HTX2.out.below hb3) (List.cons_ne_nil _ _)
  obtain ⟨bz, oz, rfl, hz⟩ := toks_block htz (List.cons_ne_nil _ _)
  obtain ⟨x0, x1, x2, x3⟩ := hx 0 _ rfl
  obtain ⟨z0, z1, z2, z3⟩ := hz 0 _ rfl
  simp only [Nat.zero_mul, Nat.add_zero] at x0 x1 x2 x3 z0 z1 z2 z3
  have x0' : w3.cell? ⟨bx, ox, none⟩ = some (.int .u8 5) := x0
  have x1' : w3.cell? ⟨bx, ox + 1, none⟩ = some (.string ⟨#[]⟩) := x1
  have x2' : w3.cell? ⟨bx, ox + 2, none⟩ = some (.int .i64 0) := x2
  have x3' : w3.cell? ⟨bx, ox + 3, none⟩ = some (.int .i64 0) := x3
  have z0' : w3.cell? ⟨bz, oz, none⟩ = some (.int .u8 5) := z0
  have z1' : w3.cell? ⟨bz, oz + 1, none⟩ = some (.string ⟨#[]⟩) := z1
  have z2' : w3.cell? ⟨bz, oz + 2, none⟩ = some (.int .i64 0) := z2
  clear kS htz hx hz hb3 HTX2 x0 x1 x2 x3 z0 z1 z2 z3
  have kB : ∀ (ad : Option Addr) c q, (convert 22 9 (.slice ad 0 c)).run Tryd.prog (w3.drewN q) = .ok (.string ⟨#[]⟩) (w3.drewN q) := fun ad c q => BytS.conv (w := w3.drewN q) (a := ad) (l := []) (Or.inl ⟨rfl, trivial⟩) c
  rcases a with _ | ad
  · obtain rfl : ca = 0 := HNIL.out rfl
    clear HNIL
    go_wp2_with fail
    refine wp_loop_rounds 2 ?_
    rw [rounds_succ]
    go_wp2_with fail
    go_quiet (fail)
    go_wp2_with fail
    go_quiet (fail)
    go_wp2_with fail
    refine wp_loop_rounds 1 ?_
    rw [rounds_succ]
    go_wp2_with fail
    go_quiet (fail)
    go_wp2_with fail
    rw [rounds_succ]
    go_wp2_with fail
    refine (works_any _ (HW.out.below (below_next HB3.out (below_drewN w3 _)))).mono ?_; rintro e w6 ⟨rfl, hb6⟩
    go_wp2_with fail
    go_ret
    exact ⟨rfl, below_next (below_next HB3.out (below_drewN w3 _)) hb6⟩
  · clear HNIL
    go_wp2_with fail
    refine wp_loop_rounds 2 ?_
    rw [rounds_succ]
    go_wp2_with fail
    go_quiet (fail)
    go_wp2_with fail
    go_quiet (fail)
    go_wp2_with fail
    refine wp_loop_rounds 1 ?_
    rw [rounds_succ]
    go_wp2_with fail
    go_quiet (fail)
    go_wp2_with fail
    rw [rounds_succ]
    go_wp2_with fail
    refine (works_any _ (HW.out.below (below_next HB3.out (below_drewN w3 _)))).mono ?_; rintro e w6 ⟨rfl, hb6⟩
    go_wp2_with fail
    go_ret
    exact ⟨rfl, below_next (below_next HB3.out (below_drewN w3 _)) hb6⟩
end Go.Proofs.YtdbkchngpbahaaaDoor
