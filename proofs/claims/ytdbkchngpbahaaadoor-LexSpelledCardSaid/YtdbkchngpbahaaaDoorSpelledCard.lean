/- The card of LexSpelled: whatever the source, LexSpelled answers true, and its arguments read as they did; on the condition that the listed package variables hold what the program's text lays. By an AI agent. -/
import Derived.Test.YtdbkchngpbahaaaDoorSpelledNone
import Derived.Test.YtdbkchngpbahaaaDoorOpenNil
import Derived.Test.YtdbkchngpbahaaaDoorCards
import Derived.Test.YtdbkchngpbahaaaDoorTie
namespace Go.Proofs.YtdbkchngpbahaaaDoor.spelled
open Go.ChangeShapes Go.WideShapes Go.ChangeAt Go.RowKit

theorem env {W : World} (h : laidMetH Tryd.prog Rows.lexSpelledRow.laid W) : EW W := by
  have h' : laidMet Tryd.prog Rows.lexSpelledRow.laid W := h
  exact env_of_laid (laidMet.tail (laidMet.tail (laidMet.tail h')))

theorem spelled_any (a : Option Addr) (c : Nat) (l : List UInt8) (w : World) (hw : EW w) (hc : l.length ≤ c) (hm : c ≤ maxLen) (hnil : a = none → c = 0) (ha : BytS w a l) :
    Calls Tryd.prog 4 #[.slice a l.length c] w fun e w' => e = .returned (.bool true) ∧ Below w.heap.size w w' := by
  unfold maxLen at hm
  by_cases h : 2000 < l.length
  · exact spelled_big a _ c w hw h
  · cases hA : lexS l with
    | error x => obtain ⟨p, er⟩ := x; exact spelled_bad a c l p er w hw (by omega) ha hA
    | ok ts =>
      rcases ha with ⟨rfl, _⟩ | ⟨b, o, rfl, hcell⟩
      · exact spelled_none a c w hw hnil
      · exact spelled_some b o c l ts w hw (by omega) hc (by omega) hcell hA

set_option maxRecDepth 100000 in
theorem contract (H : Type) (enc : TypeId × Value → H) (W : World) (base : Nat) (args : Array Value) (ds gs : List (DataW H)) (before : List MemPlace)
    (hval : ∀ (j : Nat) t v, Tryd.f4.params[j]? = some t → args[j]? = some v → Value.okWide Tryd.prog W .any base t v)
    (hW : DataW.Whole enc Tryd.prog Tryd.f4.params.toList Rows.lexSpelledSpec.vars false W args.toList ds gs before) (hL : laidMetH Tryd.prog Rows.lexSpelledRow.laid W) :
    Calls Tryd.prog 4 args W fun e W' => ∃ v, e = .returned v ∧ Rows.lexSpelledSpec.post enc Tryd.prog Tryd.f4 false true false false W args v W' := by
  have hW' := hW
  have hlt := fun p hp => hW.lt p hp
  obtain ⟨p0, q, hA0, hV, rfl, hfz, hnd⟩ := hW
  have hA : DataW.TrodAll enc Tryd.prog W 0 (fun _ => true) true Tryd.f4.params.toList args.toList ds p0 := hA0
  rw [Tryd.params4] at hA hval
  obtain ⟨v0, d0, rfl, rfl, h0⟩ := trodAll_one hA
  obtain ⟨rfl, rfl⟩ := trodVars_none hV
  obtain ⟨a0, l0, c0, rfl, hc0, hm0, ha0⟩ := open_bytes (hval 0 22 v0 rfl rfl) h0
  clear hA0
  simp only [List.append_nil] at hW' hlt
  refine (spelled_any a0 c0 l0 W (env hL) hc0 hm0 (nil_bytes h0) ha0).mono fun e W' ⟨he, hbw⟩ => ?_
  subst he
  have hold : ∀ p ∈ p0, (fun b => decide (b < W.heap.size)) p.block = true := fun p hp => by simpa using hlt p hp
  refine ⟨_, rfl, _, _, p0, [], p0, [], hW', trodAll_cons_mk (shut_bool Tryd.underlying4 _) trodAll_mk0, ?_, rfl, hbw.frame _, fun h => by cases h⟩
  have := trodAll_mk1 (trod_keep (sp := fun b => decide (b < W.heap.size)) (by kernel_rfl) (of_decide_eq_true (by kernel_rfl)) h0 hbw (fun x hx => hx) hlt hold)
  exact this

def wargs : Array Value := #[.slice none 0 0]
theorem laid_met (os : Os) : laidMet Tryd.prog Rows.lexSpelledRow.laid ((laidWorld os).forCall (fun _ _ => 0) ⟨#[], wargs, []⟩).memory :=
  laidMet_of_run' 8 (by kernel_rfl) (by kernel_rfl)
theorem reads (os : Os) {H : Type} (enc : TypeId × Value → H) : ∃ places, DataW.whole enc Tryd.prog ((laidWorld os).forCall (fun _ _ => 0) ⟨#[], wargs, []⟩).memory Tryd.f4.params.toList Rows.lexSpelledSpec.vars false wargs.toList 8 = some ([.nil], [], places) :=
  ⟨[], by kernel_rfl⟩

set_option maxRecDepth 100000 in
theorem lifted (os : Os) (started : os.Started) (H : Type) (enc : TypeId × Value → H) (F : Stop.Interp) :
    ReturnsInHanded {} Tryd.checked os 4 .any ((OpenSpec.ofChange Rows.lexSpelledSpec).preRow enc Tryd.prog Tryd.f4 Rows.lexSpelledRow.domain false Rows.lexSpelledRow.laid) (((OpenSpec.ofChange Rows.lexSpelledSpec).at F).post enc Tryd.prog Tryd.f4 false true false false) := by
  obtain ⟨places, hx⟩ := reads os enc
  refine returnsInHanded_of_row (C := Tryd.checked) (s := OpenSpec.ofChange Rows.lexSpelledSpec) own started (by kernel_rfl) Tryd.func4
    (witness_row_atRef (enc := enc) (C := Tryd.checked) false (laidWorld os) wargs rfl (by kernel_rfl) (by kernel_rfl) (by kernel_rfl)
      (OpenSpec.preRow_of_cond 8 hx (by kernel_rfl) (fun k hk => by cases hk) (by kernel_rfl) (laid_met os))) ?_
  intro W base args ds gs before hval hW _ _ _ hL _ _
  exact contract H enc W base args ds gs before hval hW hL

theorem said : Rows.LexSpelledSaid :=
  OpenClaim.holds_of_cond 4 Tryd.f4 rfl rfl rfl rfl rfl rfl rfl ⟨rfl, rfl, rfl, rfl, rfl⟩ rfl rfl rfl rfl rfl (by kernel_rfl) Tryd.func4 (by kernel_rfl)
    (of_decide_eq_true (by kernel_rfl)) (by unfold Func.isWrapper; first | (rw [if_pos (by decide +kernel)]; kernel_rfl) | (rw [if_neg (by decide +kernel)]; exact ⟨rfl, rfl⟩))
    (fun os started H enc _ F => by rw [OpenClaim.pre_eq_preRow]; exact lifted os started H enc F)

theorem plain (f : FuncId) (fn : Func) (hf : Tryd.pinned.checked.prog.funcNamed "proofmark/proofmarklaw13.LexSpelled" = some f) (hfn : Tryd.pinned.checked.prog.funcs[f]? = some fn) :
    true = Tryd.pinned.checked.prog.looks [] ∧ ∀ (j : Nat) t, fn.params[j]? = some t → Tryd.pinned.checked.prog.wantsStandIn t = false := by
  obtain rfl : f = 4 := Option.some.inj ((show Tryd.prog.funcNamed "proofmark/proofmarklaw13.LexSpelled" = some 4 by kernel_rfl).symm.trans hf) |>.symm
  obtain rfl : fn = Tryd.f4 := (Option.some.inj (Tryd.func4.symm.trans hfn)).symm
  refine ⟨by kernel_rfl, fun j t ht => ?_⟩
  rw [Tryd.params4] at ht
  have h := Array.mem_of_getElem? ht
  obtain rfl : t = 22 := by simp at h; omega
  exact (show Tryd.prog.wantsStandIn 22 = false by kernel_rfl)

/-- THE CARD. -/
theorem card : Rows.LexSpelledCardSaid :=
  Claim7.holds_tied_plain_at .later [] _ _ _ _ said (fun _ h => by cases h) (by kernel_rfl) (fun _ h => by cases h) lexSpelled_row_tie rfl ⟨rfl, rfl⟩ (by kernel_rfl) rfl plain (by kernel_rfl)
#print axioms card
end Go.Proofs.YtdbkchngpbahaaaDoor.spelled
