/- The card of ParseMore: whatever the sources, ParseMore answers true, and its arguments read as they did; on the condition that the listed package variables hold what the program's text lays. By an AI agent. -/
import Derived.Test.YtkkeocnnecegbaaGreatDoorPzH
import Derived.Test.YtkkeocnnecegbaaGreatDoorJG
import Derived.Test.YtkkeocnnecegbaaGreatDoorMoreFacts
import Derived.Test.YtkkeocnnecegbaaGreatDoorCards
import Derived.Test.YtkkeocnnecegbaaGreatDoorTie
namespace Go.Proofs.YtkkeocnnecegbaaGreatDoor.more
open Go.ChangeShapes Go.WideShapes Go.ChangeAt Go.RowKit

theorem env {W : World} (h : laidMetH Tryz.prog Rows.parseMoreRow.laid W) (hs : W.ShapedOpen Tryz.prog) : EnvP W := by
  have h' : laidMet Tryz.prog Rows.parseMoreRow.laid W := h
  exact ⟨env_of_laid (laidMet.tail (laidMet.tail (laidMet.tail (laidMet.tail h')))), tab_of_laid (laidMet.tail (laidMet.tail h')), max_of_shape hs⟩



set_option maxRecDepth 100000 in
theorem contract (H : Type) (enc : TypeId × Value → H) (W : World) (base : Nat) (args : Array Value) (ds gs : List (DataW H)) (before : List MemPlace)
    (hval : ∀ (j : Nat) t v, Tryz.f5.params[j]? = some t → args[j]? = some v → Value.okWide Tryz.prog W .any base t v)
    (hW : DataW.Whole enc Tryz.prog Tryz.f5.params.toList Rows.parseMoreSpec.vars false W args.toList ds gs before) (hL : laidMetH Tryz.prog Rows.parseMoreRow.laid W) (hsh : W.ShapedOpen Tryz.prog) :
    Calls Tryz.prog 5 args W fun e W' => ∃ v, e = .returned v ∧ Rows.parseMoreSpec.post enc Tryz.prog Tryz.f5 false true false false W args v W' := by
  have hW' := hW
  have hlt := fun p hp => hW.lt p hp
  obtain ⟨p, q, hA0, hV, rfl, hfz, hnd⟩ := hW
  have hA : DataW.TrodAll enc Tryz.prog W 0 (fun _ => true) true Tryz.f5.params.toList args.toList ds p := hA0
  rw [Tryz.params5] at hA hval
  obtain ⟨v0, v1, d0, d1, p0, p1, rfl, rfl, rfl, h0, h1⟩ := trodAll_two hA
  obtain ⟨rfl, rfl⟩ := trodVars_none hV
  obtain ⟨a0, l0, c0, rfl, hc0, hm0, ha0⟩ := open_bytes (hval 0 30 v0 rfl rfl) h0
  obtain ⟨a1, l1, c1, rfl, hc1, hm1, ha1⟩ := open_bytes (hval 1 30 v1 rfl rfl) h1
  clear hA0
  simp only [List.append_nil] at hW' hlt
  refine (more_any a0 a1 c0 c1 l0 l1 W ha0 ha1 (env hL hsh)).mono fun e W' ⟨he, hbw⟩ => ?_
  subst he
  have hold : ∀ p ∈ p0 ++ p1, (fun b => decide (b < W.heap.size)) p.block = true := fun p hp => by simpa using hlt p hp
  refine ⟨_, rfl, _, _, p0 ++ p1, [], p0 ++ p1, [], hW', trodAll_cons_mk (shut_bool Tryz.underlying4 _) trodAll_mk0, ?_, rfl, hbw.frame _, fun h => by cases h⟩
  have := trodAll_mk2 (trod_keep (sp := fun b => decide (b < W.heap.size)) (by kernel_rfl) (of_decide_eq_true (by kernel_rfl)) h0 hbw (fun x hx => List.mem_append_left _ hx) hlt hold) (trod_keep (sp := fun b => decide (b < W.heap.size)) (by kernel_rfl) (of_decide_eq_true (by kernel_rfl)) h1 hbw (fun x hx => List.mem_append_right _ hx) hlt hold)
  exact this

def wargs : Array Value := #[.slice none 0 0, .slice none 0 0]
theorem laid_met (os : Os) : laidMet Tryz.prog Rows.parseMoreRow.laid ((laidWorld os).forCall (fun _ _ => 0) ⟨#[], wargs, []⟩).memory :=
  laidMet_of_run' 8 (by kernel_rfl) (by kernel_rfl)
theorem reads (os : Os) {H : Type} (enc : TypeId × Value → H) : ∃ places, DataW.whole enc Tryz.prog ((laidWorld os).forCall (fun _ _ => 0) ⟨#[], wargs, []⟩).memory Tryz.f5.params.toList Rows.parseMoreSpec.vars false wargs.toList 8 = some ([.nil, .nil], [], places) :=
  ⟨[], by kernel_rfl⟩

set_option maxRecDepth 100000 in
theorem lifted (os : Os) (started : os.Started) (H : Type) (enc : TypeId × Value → H) (F : Stop.Interp) :
    ReturnsInHanded {} Tryz.checked os 5 .any ((OpenSpec.ofChange Rows.parseMoreSpec).preRow enc Tryz.prog Tryz.f5 Rows.parseMoreRow.domain false Rows.parseMoreRow.laid) (((OpenSpec.ofChange Rows.parseMoreSpec).at F).post enc Tryz.prog Tryz.f5 false true false false) := by
  obtain ⟨places, hx⟩ := reads os enc
  refine returnsInHanded_of_row (C := Tryz.checked) (s := OpenSpec.ofChange Rows.parseMoreSpec) own started (by kernel_rfl) Tryz.func5
    (witness_row_atRef (enc := enc) (C := Tryz.checked) false (laidWorld os) wargs rfl (by kernel_rfl) (by kernel_rfl) (by kernel_rfl)
      (OpenSpec.preRow_of_cond 8 hx (by kernel_rfl) (fun k hk => by cases hk) (by kernel_rfl) (laid_met os))) ?_
  intro W base args ds gs before hval hW _ _ _ hL hsh _
  exact contract H enc W base args ds gs before hval hW hL hsh

theorem said : Rows.ParseMoreSaid :=
  OpenClaim.holds_of_cond 5 Tryz.f5 rfl rfl rfl rfl rfl rfl rfl ⟨rfl, rfl, rfl, rfl, rfl⟩ rfl rfl rfl rfl rfl (by kernel_rfl) Tryz.func5 closed
    (of_decide_eq_true (by kernel_rfl)) (by unfold Func.isWrapper; first | (rw [if_pos (by decide +kernel)]; kernel_rfl) | (rw [if_neg (by decide +kernel)]; exact ⟨rfl, rfl⟩))
    (fun os started H enc _ F => by rw [OpenClaim.pre_eq_preRow]; exact lifted os started H enc F)

theorem plain (f : FuncId) (fn : Func) (hf : Tryz.pinned.checked.prog.funcNamed "proofmark/proofmarklaw14.ParseMore" = some f) (hfn : Tryz.pinned.checked.prog.funcs[f]? = some fn) :
    true = Tryz.pinned.checked.prog.looks [] ∧ ∀ (j : Nat) t, fn.params[j]? = some t → Tryz.pinned.checked.prog.wantsStandIn t = false := by
  obtain rfl : f = 5 := Option.some.inj ((show Tryz.prog.funcNamed "proofmark/proofmarklaw14.ParseMore" = some 5 by kernel_rfl).symm.trans hf) |>.symm
  obtain rfl : fn = Tryz.f5 := (Option.some.inj (Tryz.func5.symm.trans hfn)).symm
  refine ⟨by kernel_rfl, fun j t ht => ?_⟩
  rw [Tryz.params5] at ht
  have h := Array.mem_of_getElem? ht
  obtain rfl : t = 30 := by simp at h; omega
  exact (show Tryz.prog.wantsStandIn 30 = false by kernel_rfl)

/-- THE CARD. -/
theorem card : Rows.ParseMoreCardSaid :=
  Claim7.holds_tied_plain_at .later [] _ _ _ _ said (fun _ h => by cases h) (by kernel_rfl) (fun _ h => by cases h) parseMore_row_tie rfl ⟨rfl, rfl⟩ (by kernel_rfl) rfl plain (by kernel_rfl)
#print axioms card
end Go.Proofs.YtkkeocnnecegbaaGreatDoor.more
