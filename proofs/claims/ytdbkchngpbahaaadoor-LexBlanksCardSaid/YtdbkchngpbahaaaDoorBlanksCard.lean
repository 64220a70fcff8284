/- The card of LexBlanks: whatever the source, the token and the blank, LexBlanks answers true, and its arguments read as they did; on the condition that the listed package variables hold what the program's text lays. By an AI agent. -/
import Derived.Test.YtdbkchngpbahaaaDoorBlanksWalk
import Derived.Test.YtdbkchngpbahaaaDoorOpen
import Derived.Test.YtdbkchngpbahaaaDoorOpenNil
import Derived.Test.YtdbkchngpbahaaaDoorCards
import Derived.Test.YtdbkchngpbahaaaDoorTie
namespace Go.Proofs.YtdbkchngpbahaaaDoor.blanks
open Go.ChangeShapes Go.WideShapes Go.ChangeAt Go.RowKit

theorem env {W : World} (h : laidMetH Tryd.prog Rows.lexBlanksRow.laid W) : EW W := by
  have h' : laidMet Tryd.prog Rows.lexBlanksRow.laid W := h
  exact env_of_laid (laidMet.tail (laidMet.tail (laidMet.tail h')))

theorem blanks_any (a : Option Addr) (ca : Nat) (l : List UInt8) (wh bl : Int) (w : World) (hw : EW w) (hc : l.length ≤ ca) (hm : ca ≤ maxLen) (hnil : a = none → ca = 0) (h1 : (Lit.int .u16 wh).wf = true) (h2 : (Lit.int .u8 bl).wf = true) (ha : BytS w a l) :
    Calls Tryd.prog 5 #[.slice a l.length ca, .int .u16 wh, .int .u8 bl] w fun e w' => e = .returned (.bool true) ∧ Below w.heap.size w w' := by
  unfold maxLen at hm
  obtain ⟨x1, x2⟩ := bounds_u16 h1
  obtain ⟨y1, y2⟩ := bounds_u8 h2
  obtain ⟨wn, rfl⟩ := Int.eq_ofNat_of_zero_le x1
  obtain ⟨bn, rfl⟩ := Int.eq_ofNat_of_zero_le y1
  by_cases h : 2000 < l.length
  · exact blanks_big a l.length ca _ _ w hw h
  · exact blanks_small a ca l wn bn w hw (by omega) hc (by omega) (by omega) (by omega) ha hnil

set_option maxRecDepth 100000 in
theorem contract (H : Type) (enc : TypeId × Value → H) (W : World) (base : Nat) (args : Array Value) (ds gs : List (DataW H)) (before : List MemPlace)
    (hval : ∀ (j : Nat) t v, Tryd.f5.params[j]? = some t → args[j]? = some v → Value.okWide Tryd.prog W .any base t v)
    (hW : DataW.Whole enc Tryd.prog Tryd.f5.params.toList Rows.lexBlanksSpec.vars false W args.toList ds gs before) (hL : laidMetH Tryd.prog Rows.lexBlanksRow.laid W) :
    Calls Tryd.prog 5 args W fun e W' => ∃ v, e = .returned v ∧ Rows.lexBlanksSpec.post enc Tryd.prog Tryd.f5 false true false false W args v W' := by
  have hW' := hW
  have hlt := fun p hp => hW.lt p hp
  obtain ⟨p, q, hA0, hV, rfl, hfz, hnd⟩ := hW
  have hA : DataW.TrodAll enc Tryd.prog W 0 (fun _ => true) true Tryd.f5.params.toList args.toList ds p := hA0
  rw [Tryd.params5] at hA hval
  obtain ⟨v0, v1, v2, d0, d1, d2, p0, p1, p2, rfl, rfl, rfl, h0, h1, h2⟩ := trodAll_three hA
  obtain ⟨rfl, rfl⟩ := trodVars_none hV
  obtain ⟨a0, l0, c0, rfl, hc0, hm0, ha0⟩ := open_bytes (hval 0 22 v0 rfl rfl) h0
  obtain ⟨n1, rfl, rfl, rfl, hw1⟩ := open_int Tryd.underlying36 (hval 1 36 v1 rfl rfl) h1
  obtain ⟨n2, rfl, rfl, rfl, hw2⟩ := open_int Tryd.underlying5 (hval 2 5 v2 rfl rfl) h2
  clear hA0
  simp only [List.append_nil] at hW' hlt
  refine (blanks_any a0 c0 l0 n1 n2 W (env hL) hc0 hm0 (nil_bytes h0) hw1 hw2 ha0).mono fun e W' ⟨he, hbw⟩ => ?_
  subst he
  have hold : ∀ p ∈ p0, (fun b => decide (b < W.heap.size)) p.block = true := fun p hp => by simpa using hlt p hp
  refine ⟨_, rfl, _, _, p0, [], p0, [], hW', trodAll_cons_mk (shut_bool Tryd.underlying4 _) trodAll_mk0, ?_, rfl, hbw.frame _, fun h => by cases h⟩
  have := trodAll_mk3 (trod_keep (sp := fun b => decide (b < W.heap.size)) (by kernel_rfl) (of_decide_eq_true (by kernel_rfl)) h0 hbw (fun x hx => hx) hlt hold) (shut_int Tryd.underlying36 hw1) (shut_int Tryd.underlying5 hw2)
  simp only [List.append_nil, List.nil_append] at this
  exact this

def wargs : Array Value := #[.slice none 0 0, .int .u16 0, .int .u8 0]
theorem laid_met (os : Os) : laidMet Tryd.prog Rows.lexBlanksRow.laid ((laidWorld os).forCall (fun _ _ => 0) ⟨#[], wargs, []⟩).memory :=
  laidMet_of_run' 8 (by kernel_rfl) (by kernel_rfl)
theorem reads (os : Os) {H : Type} (enc : TypeId × Value → H) : ∃ places, DataW.whole enc Tryd.prog ((laidWorld os).forCall (fun _ _ => 0) ⟨#[], wargs, []⟩).memory Tryd.f5.params.toList Rows.lexBlanksSpec.vars false wargs.toList 8 = some ([.nil, .lit (.int .u16 0), .lit (.int .u8 0)], [], places) :=
  ⟨[], by kernel_rfl⟩

set_option maxRecDepth 100000 in
theorem lifted (os : Os) (started : os.Started) (H : Type) (enc : TypeId × Value → H) (F : Stop.Interp) :
    ReturnsInHanded {} Tryd.checked os 5 .any ((OpenSpec.ofChange Rows.lexBlanksSpec).preRow enc Tryd.prog Tryd.f5 Rows.lexBlanksRow.domain false Rows.lexBlanksRow.laid) (((OpenSpec.ofChange Rows.lexBlanksSpec).at F).post enc Tryd.prog Tryd.f5 false true false false) := by
  obtain ⟨places, hx⟩ := reads os enc
  refine returnsInHanded_of_row (C := Tryd.checked) (s := OpenSpec.ofChange Rows.lexBlanksSpec) own started (by kernel_rfl) Tryd.func5
    (witness_row_atRef (enc := enc) (C := Tryd.checked) false (laidWorld os) wargs rfl (by kernel_rfl) (by kernel_rfl) (by kernel_rfl)
      (OpenSpec.preRow_of_cond 8 hx (by kernel_rfl) (fun k hk => by cases hk) (by kernel_rfl) (laid_met os))) ?_
  intro W base args ds gs before hval hW _ _ _ hL _ _
  exact contract H enc W base args ds gs before hval hW hL

theorem said : Rows.LexBlanksSaid :=
  OpenClaim.holds_of_cond 5 Tryd.f5 rfl rfl rfl rfl rfl rfl rfl ⟨rfl, rfl, rfl, rfl, rfl⟩ rfl rfl rfl rfl rfl (by kernel_rfl) Tryd.func5 (by kernel_rfl)
    (of_decide_eq_true (by kernel_rfl)) (by unfold Func.isWrapper; first | (rw [if_pos (by decide +kernel)]; kernel_rfl) | (rw [if_neg (by decide +kernel)]; exact ⟨rfl, rfl⟩))
    (fun os started H enc _ F => by rw [OpenClaim.pre_eq_preRow]; exact lifted os started H enc F)

theorem plain (f : FuncId) (fn : Func) (hf : Tryd.pinned.checked.prog.funcNamed "proofmark/proofmarklaw13.LexBlanks" = some f) (hfn : Tryd.pinned.checked.prog.funcs[f]? = some fn) :
    true = Tryd.pinned.checked.prog.looks [] ∧ ∀ (j : Nat) t, fn.params[j]? = some t → Tryd.pinned.checked.prog.wantsStandIn t = false := by
  obtain rfl : f = 5 := Option.some.inj ((show Tryd.prog.funcNamed "proofmark/proofmarklaw13.LexBlanks" = some 5 by kernel_rfl).symm.trans hf) |>.symm
  obtain rfl : fn = Tryd.f5 := (Option.some.inj (Tryd.func5.symm.trans hfn)).symm
  refine ⟨by kernel_rfl, fun j t ht => ?_⟩
  rw [Tryd.params5] at ht
  have h := Array.mem_of_getElem? ht
  rcases (by simpa using h : t = 22 ∨ t = 36 ∨ t = 5) with rfl | rfl | rfl
  · exact (show Tryd.prog.wantsStandIn 22 = false by kernel_rfl)
  · exact (show Tryd.prog.wantsStandIn 36 = false by kernel_rfl)
  · exact (show Tryd.prog.wantsStandIn 5 = false by kernel_rfl)

/-- THE CARD. -/
theorem card : Rows.LexBlanksCardSaid :=
  Claim7.holds_tied_plain_at .later [] _ _ _ _ said (fun _ h => by cases h) (by kernel_rfl) (fun _ h => by cases h) lexBlanks_row_tie rfl ⟨rfl, rfl⟩ (by kernel_rfl) rfl plain (by kernel_rfl)
#print axioms card
end Go.Proofs.YtdbkchngpbahaaaDoor.blanks
