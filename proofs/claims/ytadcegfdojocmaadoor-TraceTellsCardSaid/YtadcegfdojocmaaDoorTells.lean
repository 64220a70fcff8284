/- The card of TraceTells: whatever the two traces and the two bools, TraceTells answers true, and its arguments read as they did; on the condition that the listed package variables (the letters, the table of powers, the tables of math/bits) hold what the program's text lays. By an AI agent. -/
import Derived.Test.YtadcegfdojocmaaDoorTellsWalk
import Derived.Test.YtadcegfdojocmaaDoorOpen
import Derived.Test.YtadcegfdojocmaaDoorCards
import Derived.Test.YtadcegfdojocmaaDoorTie
import Derived.Stop.LaidErr
namespace Go.Proofs.YtadcegfdojocmaaDoor.tells
open Go.ChangeShapes Go.WideShapes Go.ChangeAt Go.RowKit

theorem own : ownKnob Tryd.prog.godebug = none := by kernel_rfl

theorem env {W : World} (h : laidMetH Tryd.prog Rows.traceTellsRow.laid W) : Env W := by
  have h' : laidMet Tryd.prog Rows.traceTellsRow.laid W := h
  exact env_of_pow_letters (laidMet.tail (laidMet.tail h')) (laidMet.tail (laidMet.tail (laidMet.tail h')))

theorem tells_any (a b : Option Addr) (na ca nb cb : Nat) (en ov : Bool) (ka ma kb mb : Nat → Int) (w : World) (henv : Env w) (hca : na ≤ ca) (hcb : nb ≤ cb) (hma : ca ≤ maxLen) (hmb : cb ≤ maxLen)
    (hza : a = none → ca = 0) (hzb : b = none → cb = 0) (hk : ∀ i, i < na → 0 ≤ ka i) (ha : EvS w a na ka ma) (hb : EvS w b nb kb mb) :
    Calls Tryd.prog 4 #[.slice a na ca, .slice b nb cb, .bool en, .bool ov] w fun e w' => e = .returned (.bool true) ∧ Below w.heap.size w w' := by
  unfold maxLen at hma hmb
  by_cases h : 200 < na ∨ 200 < nb
  · exact tells_big a b na ca nb cb en ov w henv h (by omega) (by omega)
  · exact tells_small a b na ca nb cb en ov ka ma kb mb w henv (by omega) (by omega) hca hcb hza hzb hk ha hb

set_option maxRecDepth 100000 in
theorem contract (H : Type) (enc : TypeId × Value → H) (W : World) (base : Nat) (args : Array Value) (ds gs : List (DataW H)) (before : List MemPlace)
    (hval : ∀ (j : Nat) t v, Tryd.f4.params[j]? = some t → args[j]? = some v → Value.okWide Tryd.prog W .any base t v)
    (hW : DataW.Whole enc Tryd.prog Tryd.f4.params.toList Rows.traceTellsSpec.vars false W args.toList ds gs before) (hL : laidMetH Tryd.prog Rows.traceTellsRow.laid W) :
    Calls Tryd.prog 4 args W fun e W' => ∃ v, e = .returned v ∧ Rows.traceTellsSpec.post enc Tryd.prog Tryd.f4 false true false false W args v W' := by
  have hW' := hW
  have hlt := fun p hp => hW.lt p hp
  obtain ⟨p, q, hA0, hV, rfl, hfz, hnd⟩ := hW
  have hA : DataW.TrodAll enc Tryd.prog W 0 (fun _ => true) true Tryd.f4.params.toList args.toList ds p := hA0
  rw [Tryd.params4] at hA hval
  obtain ⟨v0, v1, v2, v3, d0, d1, d2, d3, p0, p1, p2, p3, rfl, rfl, rfl, h0, h1, h2, h3⟩ := trodAll_four hA
  obtain ⟨rfl, rfl⟩ := trodVars_none hV
  obtain ⟨en, rfl, rfl, rfl⟩ := open_bool Tryd.underlying4 (hval 2 4 v2 rfl rfl) h2
  obtain ⟨ov, rfl, rfl, rfl⟩ := open_bool Tryd.underlying4 (hval 3 4 v3 rfl rfl) h3
  obtain ⟨a, na, ca, ka, ma, rfl, hca, hma, ha, hka, _⟩ := open_events (hval 0 22 v0 rfl rfl) h0
  obtain ⟨b, nb, cb, kb, mb, rfl, hcb, hmb, hb, _, _⟩ := open_events (hval 1 22 v1 rfl rfl) h1
  clear hA0
  simp only [List.append_nil] at hW' hlt
  refine (tells_any a b na ca nb cb en ov ka ma kb mb W (env hL) hca hcb hma hmb (nil_events h0) (nil_events h1) (fun i hi => (hka i hi).1) ha hb).mono fun e W' ⟨he, hbw⟩ => ?_
  subst he
  have hold : ∀ p ∈ p0 ++ p1, (fun b => decide (b < W.heap.size)) p.block = true := fun p hp => by simpa using hlt p hp
  refine ⟨_, rfl, _, _, p0 ++ p1, [], p0 ++ p1, [], hW', trodAll_cons_mk (shut_bool Tryd.underlying4 _) trodAll_mk0, ?_, rfl, hbw.frame _, fun h => by cases h⟩
  have := trodAll_mk4 (trod_keep (sp := fun b => decide (b < W.heap.size)) (by kernel_rfl) (of_decide_eq_true (by kernel_rfl)) h0 hbw (fun x hx => List.mem_append_left _ hx) hlt hold) (trod_keep (sp := fun b => decide (b < W.heap.size)) (by kernel_rfl) (of_decide_eq_true (by kernel_rfl)) h1 hbw (fun x hx => List.mem_append_right _ hx) hlt hold) (shut_bool Tryd.underlying4 en) (shut_bool Tryd.underlying4 ov)
  rw [List.append_nil, List.append_nil] at this
  exact this

/-- A WORLD FOR THE WITNESS: the settled one, the listed tables holding what their initialisers lay. -/
noncomputable def put (g : Nat) (cs : Array Value) (h : Array Obj) : Array Obj := h.modify g fun
      | .cells _ t frozen => .cells cs t frozen
      | o => o
def bitsTab : List (DataW Unit) → Array Value := fun l => (l.map fun d => match d with | .lit (.int k n) => Value.int k n | .lit (.string b) => Value.string ⟨b.toArray⟩ | _ => undef).toArray
def parts : DataW Unit → List (DataW Unit) | .agg l => l | _ => []
noncomputable def laidWorld (os : Os) : World :=
  { World.holding Tryd.prog os ⟨#[], #[], []⟩ with heap := put 6 (bitsTab (parts Rows.laid_math_bits_deBruijn64tab)) (put 5 (bitsTab (parts Rows.laid_math_bits_deBruijn32tab)) (put 1 (bitsTab (parts Rows.laid_internal_strconv_uint64pow10)) (put 0 (bitsTab (parts Rows.laid_proofmark_trace_letters)) (World.holding Tryd.prog os ⟨#[], #[], []⟩).heap))) }
def wargs : Array Value := #[.slice none 0 0, .slice none 0 0, .bool false, .bool false]
theorem laid_met (os : Os) : laidMet Tryd.prog Rows.traceTellsRow.laid ((laidWorld os).forCall (fun _ _ => 0) ⟨#[], wargs, []⟩).memory :=
  laidMet_of_run' 8 (by kernel_rfl) (by kernel_rfl)
theorem reads (os : Os) {H : Type} (enc : TypeId × Value → H) : ∃ places, DataW.whole enc Tryd.prog ((laidWorld os).forCall (fun _ _ => 0) ⟨#[], wargs, []⟩).memory Tryd.f4.params.toList Rows.traceTellsSpec.vars false wargs.toList 8 = some ([.nil, .nil, .lit (.bool false), .lit (.bool false)], [], places) :=
  ⟨[], by kernel_rfl⟩

set_option maxRecDepth 100000 in
theorem lifted (os : Os) (started : os.Started) (H : Type) (enc : TypeId × Value → H) (F : Stop.Interp) :
    ReturnsInHanded {} Tryd.checked os 4 .any ((OpenSpec.ofChange Rows.traceTellsSpec).preRow enc Tryd.prog Tryd.f4 Rows.traceTellsRow.domain false Rows.traceTellsRow.laid) (((OpenSpec.ofChange Rows.traceTellsSpec).at F).post enc Tryd.prog Tryd.f4 false true false false) := by
  obtain ⟨places, hx⟩ := reads os enc
  refine returnsInHanded_of_row (C := Tryd.checked) (s := OpenSpec.ofChange Rows.traceTellsSpec) own started (by kernel_rfl) Tryd.func4
    (witness_row_at (enc := enc) (C := Tryd.checked) false (laidWorld os) wargs rfl (by kernel_rfl) (by kernel_rfl) (by kernel_rfl)
      (OpenSpec.preRow_of_cond 8 hx (by kernel_rfl) (fun k hk => by cases hk) (by kernel_rfl) (laid_met os))) ?_
  intro W base args ds gs before hval hW _ _ _ hL _ _
  exact contract H enc W base args ds gs before hval hW hL

theorem said : Rows.TraceTellsSaid :=
  OpenClaim.holds_of_cond 4 Tryd.f4 rfl rfl rfl rfl rfl rfl rfl ⟨rfl, rfl, rfl, rfl, rfl⟩ rfl rfl rfl rfl rfl (by kernel_rfl) Tryd.func4 (by kernel_rfl)
    (of_decide_eq_true (by kernel_rfl)) (by unfold Func.isWrapper; first | (rw [if_pos (by decide +kernel)]; kernel_rfl) | (rw [if_neg (by decide +kernel)]; exact ⟨rfl, rfl⟩))
    (fun os started H enc _ F => by rw [OpenClaim.pre_eq_preRow]; exact lifted os started H enc F)

theorem plain (f : FuncId) (fn : Func) (hf : Tryd.pinned.checked.prog.funcNamed "proofmark/proofmarklaw18.TraceTells" = some f) (hfn : Tryd.pinned.checked.prog.funcs[f]? = some fn) :
    true = Tryd.pinned.checked.prog.looks [] ∧ ∀ (j : Nat) t, fn.params[j]? = some t → Tryd.pinned.checked.prog.wantsStandIn t = false := by
  obtain rfl : f = 4 := Option.some.inj ((show Tryd.prog.funcNamed "proofmark/proofmarklaw18.TraceTells" = some 4 by kernel_rfl).symm.trans hf) |>.symm
  obtain rfl : fn = Tryd.f4 := (Option.some.inj (Tryd.func4.symm.trans hfn)).symm
  refine ⟨by kernel_rfl, fun j t ht => ?_⟩
  rw [Tryd.params4] at ht
  have h := Array.mem_of_getElem? ht
  have h' : t = 22 ∨ t = 4 := by
    simp at h; omega
  rcases h' with rfl | rfl
  · exact (show Tryd.prog.wantsStandIn 22 = false by kernel_rfl)
  · exact (show Tryd.prog.wantsStandIn 4 = false by kernel_rfl)

/-- THE CARD. -/
theorem card : Rows.TraceTellsCardSaid :=
  Claim7.holds_tied_plain_at .later [] _ _ _ _ said (fun _ h => by cases h) (by kernel_rfl) (fun _ h => by cases h) traceTells_row_tie rfl ⟨rfl, rfl⟩ (by kernel_rfl) rfl plain (by kernel_rfl)
#print axioms card
end Go.Proofs.YtadcegfdojocmaaDoor.tells
