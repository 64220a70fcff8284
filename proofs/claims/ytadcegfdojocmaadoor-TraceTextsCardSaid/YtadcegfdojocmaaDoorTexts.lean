/- The card of TraceTexts: whatever the trace, TraceTexts answers true, and its arguments read as they did; on the condition that the listed package variables hold what the program's text lays. By an AI agent. -/
import Derived.Test.YtadcegfdojocmaaDoorTextsWalk
import Derived.Test.YtadcegfdojocmaaDoorOpenP
import Derived.Test.YtadcegfdojocmaaDoorCards
import Derived.Test.YtadcegfdojocmaaDoorTie
namespace Go.Proofs.YtadcegfdojocmaaDoor.texts
open Go.ChangeShapes Go.WideShapes Go.ChangeAt Go.RowKit

theorem env {W : World} (h : laidMetH Tryd.prog Rows.traceTextsRow.laid W) : EnvP W := by
  have h' : laidMet Tryd.prog Rows.traceTextsRow.laid W := h
  exact envP_of_laid (laidMet.tail (laidMet.tail h')) (laidMet.tail (laidMet.tail (laidMet.tail (laidMet.tail h')))) (laidMet.tail (laidMet.tail (laidMet.tail (laidMet.tail (laidMet.tail h'))))) (laidMet.tail (laidMet.tail (laidMet.tail (laidMet.tail (laidMet.tail (laidMet.tail h'))))))

theorem texts_any (a : Option Addr) (n c : Nat) (k m : Nat → Int) (w : World) (hw : EnvP w) (hc : n ≤ c) (hm : c ≤ maxLen) (ha : EvS w a n k m) (hr : ∀ i, i < n → -9223372036854775808 ≤ m i ∧ m i ≤ 9223372036854775807) :
    Calls Tryd.prog 5 #[.slice a n c] w fun e w' => e = .returned (.bool true) ∧ Below w.heap.size w w' := by
  unfold maxLen at hm
  by_cases h : 200 < n
  · exact texts_big a n c w hw.env h (by omega)
  · cases ho : okText n k with
    | true => exact texts_ok a n c k m w hw (by omega) ha hr ho
    | false => exact texts_none a n c k m w hw (by omega) ha hr ho

set_option maxRecDepth 100000 in
theorem contract (H : Type) (enc : TypeId × Value → H) (W : World) (base : Nat) (args : Array Value) (ds gs : List (DataW H)) (before : List MemPlace)
    (hval : ∀ (j : Nat) t v, Tryd.f5.params[j]? = some t → args[j]? = some v → Value.okWide Tryd.prog W .any base t v)
    (hW : DataW.Whole enc Tryd.prog Tryd.f5.params.toList Rows.traceTextsSpec.vars false W args.toList ds gs before) (hL : laidMetH Tryd.prog Rows.traceTextsRow.laid W) :
    Calls Tryd.prog 5 args W fun e W' => ∃ v, e = .returned v ∧ Rows.traceTextsSpec.post enc Tryd.prog Tryd.f5 false true false false W args v W' := by
  have hW' := hW
  have hlt := fun p hp => hW.lt p hp
  obtain ⟨p0, q, hA0, hV, rfl, hfz, hnd⟩ := hW
  have hA : DataW.TrodAll enc Tryd.prog W 0 (fun _ => true) true Tryd.f5.params.toList args.toList ds p0 := hA0
  rw [Tryd.params5] at hA hval
  obtain ⟨v0, d0, rfl, rfl, h0⟩ := trodAll_one hA
  obtain ⟨rfl, rfl⟩ := trodVars_none hV
  obtain ⟨a0, n0, c0, k0, m0, rfl, hc0, hm0, ha0, hk0, hr0⟩ := open_events (hval 0 22 v0 rfl rfl) h0
  clear hA0
  simp only [List.append_nil] at hW' hlt
  refine (texts_any a0 n0 c0 k0 m0 W (env hL) hc0 hm0 ha0 hr0).mono fun e W' ⟨he, hbw⟩ => ?_
  subst he
  have hold : ∀ p ∈ p0, (fun b => decide (b < W.heap.size)) p.block = true := fun p hp => by simpa using hlt p hp
  refine ⟨_, rfl, _, _, p0, [], p0, [], hW', trodAll_cons_mk (shut_bool Tryd.underlying4 _) trodAll_mk0, ?_, rfl, hbw.frame _, fun h => by cases h⟩
  have := trodAll_mk1 (trod_keep (sp := fun b => decide (b < W.heap.size)) (by kernel_rfl) (of_decide_eq_true (by kernel_rfl)) h0 hbw (fun x hx => hx) hlt hold)
  exact this

def wargs : Array Value := #[.slice none 0 0]
theorem laid_met (os : Os) : laidMet Tryd.prog Rows.traceTextsRow.laid ((laidWorld os).forCall (fun _ _ => 0) ⟨#[], wargs, []⟩).memory :=
  laidMet_of_run' 8 (by kernel_rfl) (by kernel_rfl)
theorem reads (os : Os) {H : Type} (enc : TypeId × Value → H) : ∃ places, DataW.whole enc Tryd.prog ((laidWorld os).forCall (fun _ _ => 0) ⟨#[], wargs, []⟩).memory Tryd.f5.params.toList Rows.traceTextsSpec.vars false wargs.toList 8 = some ([.nil], [], places) :=
  ⟨[], by kernel_rfl⟩

set_option maxRecDepth 100000 in
theorem lifted (os : Os) (started : os.Started) (H : Type) (enc : TypeId × Value → H) (F : Stop.Interp) :
    ReturnsInHanded {} Tryd.checked os 5 .any ((OpenSpec.ofChange Rows.traceTextsSpec).preRow enc Tryd.prog Tryd.f5 Rows.traceTextsRow.domain false Rows.traceTextsRow.laid) (((OpenSpec.ofChange Rows.traceTextsSpec).at F).post enc Tryd.prog Tryd.f5 false true false false) := by
  obtain ⟨places, hx⟩ := reads os enc
  refine returnsInHanded_of_row (C := Tryd.checked) (s := OpenSpec.ofChange Rows.traceTextsSpec) own started (by kernel_rfl) Tryd.func5
    (witness_row_atRef (enc := enc) (C := Tryd.checked) false (laidWorld os) wargs rfl (by kernel_rfl) (by kernel_rfl) (by kernel_rfl)
      (OpenSpec.preRow_of_cond 8 hx (by kernel_rfl) (fun k hk => by cases hk) (by kernel_rfl) (laid_met os))) ?_
  intro W base args ds gs before hval hW _ _ _ hL _ _
  exact contract H enc W base args ds gs before hval hW hL

theorem said : Rows.TraceTextsSaid :=
  OpenClaim.holds_of_cond 5 Tryd.f5 rfl rfl rfl rfl rfl rfl rfl ⟨rfl, rfl, rfl, rfl, rfl⟩ rfl rfl rfl rfl rfl (by kernel_rfl) Tryd.func5 (by kernel_rfl)
    (of_decide_eq_true (by kernel_rfl)) (by unfold Func.isWrapper; first | (rw [if_pos (by decide +kernel)]; kernel_rfl) | (rw [if_neg (by decide +kernel)]; exact ⟨rfl, rfl⟩))
    (fun os started H enc _ F => by rw [OpenClaim.pre_eq_preRow]; exact lifted os started H enc F)

theorem plain (f : FuncId) (fn : Func) (hf : Tryd.pinned.checked.prog.funcNamed "proofmark/proofmarklaw18.TraceTexts" = some f) (hfn : Tryd.pinned.checked.prog.funcs[f]? = some fn) :
    true = Tryd.pinned.checked.prog.looks [] ∧ ∀ (j : Nat) t, fn.params[j]? = some t → Tryd.pinned.checked.prog.wantsStandIn t = false := by
  obtain rfl : f = 5 := Option.some.inj ((show Tryd.prog.funcNamed "proofmark/proofmarklaw18.TraceTexts" = some 5 by kernel_rfl).symm.trans hf) |>.symm
  obtain rfl : fn = Tryd.f5 := (Option.some.inj (Tryd.func5.symm.trans hfn)).symm
  refine ⟨by kernel_rfl, fun j t ht => ?_⟩
  rw [Tryd.params5] at ht
  have h := Array.mem_of_getElem? ht
  obtain rfl : t = 22 := by simp at h; omega
  exact (show Tryd.prog.wantsStandIn 22 = false by kernel_rfl)

/-- THE CARD. -/
theorem card : Rows.TraceTextsCardSaid :=
  Claim7.holds_tied_plain_at .later [] _ _ _ _ said (fun _ h => by cases h) (by kernel_rfl) (fun _ h => by cases h) traceTexts_row_tie rfl ⟨rfl, rfl⟩ (by kernel_rfl) rfl plain (by kernel_rfl)
#print axioms card
end Go.Proofs.YtadcegfdojocmaaDoor.texts
