/- The arguments of the statements on traces, opened: a slice of events reads as so many kinds and numbers; what the listed variables hold. By an AI agent. -/
import Derived.Test.YtadcegfdojocmaaDoorWalkF
import Derived.ProofKit
import Derived.OpenShut
import Derived.Deep.Slices
import Derived.Deep.DeepHandedRow
import Derived.Lib.LaidTab
namespace Go.Proofs.YtadcegfdojocmaaDoor
open Go.ChangeShapes Go.WideShapes Go.ChangeAt Go.RowKit Go.Deep

theorem cells44 : Tryd.prog.cellsOf 44 = 2 := by kernel_rfl
theorem cells42 : Tryd.prog.cellsOf 42 = 1 := by kernel_rfl
theorem cells2 : Tryd.prog.cellsOf 2 = 1 := by kernel_rfl

theorem two_of {α : Type} {l : List α} {n : Nat} (h : l.length = n) (hn : n = 2 := by rfl) : ∃ a b, l = [a, b] := by
  subst hn
  match l, h with
  | [a, b], _ => exact ⟨a, b, rfl⟩

/-- One event: two cells, read. -/
theorem open_event {H : Type} {enc : TypeId × Value → H} {w : World} {base : Nat} {spare : Nat → Bool} {held : Bool} {n : Nat} {a : Addr} {x : DataW H × List MemPlace}
    (h : ∃ cs, w.cells? base a 2 = some cs ∧ DataW.trod enc Tryd.prog w base spare held n 44 cs = some x) :
    ∃ k m : Int, w.cell? a = some (.int .u8 k) ∧ w.cell? (a.add 1) = some (.int .i64 m) ∧ (0 ≤ k ∧ k ≤ 255) ∧ -9223372036854775808 ≤ m ∧ m ≤ 9223372036854775807 := by
  obtain ⟨cs, hc, ht⟩ := h
  obtain ⟨_, hl, hat⟩ := World.cells?_some hc
  obtain ⟨xs, n', _, _, _, hxl, hf⟩ := DataW.trod_struct Tryd.underlying44 ht
  have f0 := hf 0 _ rfl
  have f1 := hf 1 _ rfl
  obtain ⟨c0, c1, rfl⟩ := two_of hl
  obtain ⟨x0, x1, rfl⟩ := two_of hxl
  have g0 : DataW.trod enc Tryd.prog w base spare held n' 42 (([c0, c1].drop 0).take (Tryd.prog.cellsOf 42)) = some x0 := f0
  have g1 : DataW.trod enc Tryd.prog w base spare held n' 2 (([c0, c1].drop 1).take (Tryd.prog.cellsOf 2)) = some x1 := f1
  rw [cells42] at g0
  rw [cells2] at g1
  obtain ⟨k, e0, _, w0⟩ := DataW.trod_int Tryd.underlying42 g0
  obtain ⟨m, e1, _, w1⟩ := DataW.trod_int Tryd.underlying2 g1
  simp at e0 e1
  subst e0 e1
  exact ⟨k, m, (by have := hat 0 (by omega); simpa [Addr.add] using this), hat 1 (by omega), bounds_u8 w0, bounds_i64 w1⟩

set_option maxRecDepth 100000 in
/-- A slice of events. -/
theorem open_events {H : Type} {enc : TypeId × Value → H} {w : World} {base b0 : Nat} {spare : Nat → Bool} {held : Bool} {r : Reach} {v : Value} {d : DataW H} {p : List MemPlace}
    (hv : Value.okWide Tryd.prog w r b0 22 v) (h : DataW.Trod enc Tryd.prog w base spare held 22 v d p) :
    ∃ (a : Option Addr) (n c : Nat) (k m : Nat → Int), v = .slice a n c ∧ n ≤ c ∧ c ≤ maxLen ∧ EvS w a n k m ∧ (∀ i, i < n → 0 ≤ k i ∧ k i ≤ 255) ∧ ∀ i, i < n → -9223372036854775808 ≤ m i ∧ m i ≤ 9223372036854775807 := by
  obtain ⟨a0, len0, cap0, rfl⟩ := okWide_slice Tryd.underlying22 hv
  obtain ⟨fuel, hf⟩ := h
  rcases open_slice Tryd.underlying22 hf with ⟨hcs, _⟩ | ⟨a, len, cap, m, n, D, Pl, hcs, hb, hlc, hcm, hm, _, hi⟩
  · simp [Value.cells] at hcs
    obtain ⟨rfl, rfl, rfl⟩ := hcs
    exact ⟨none, 0, 0, fun _ => 0, fun _ => 0, rfl, Nat.le_refl _, Nat.zero_le _, Or.inl rfl, fun i hi => absurd hi (Nat.not_lt_zero _), fun i hi => absurd hi (Nat.not_lt_zero _)⟩
  · simp [Value.cells] at hcs
    obtain ⟨rfl, rfl, rfl⟩ := hcs
    have hlm : len0 ≤ m := by rw [hm]; split <;> omega
    have hev : ∀ i, ∃ km : Int × Int, i < len0 → w.cell? (a.add (i * 2)) = some (.int .u8 km.1) ∧ w.cell? ((a.add (i * 2)).add 1) = some (.int .i64 km.2) ∧ (0 ≤ km.1 ∧ km.1 ≤ 255) ∧ -9223372036854775808 ≤ km.2 ∧ km.2 ≤ 9223372036854775807 := by
      intro i
      by_cases hil : i < len0
      · have h1 := hi i (by omega)
        rw [cells44] at h1
        obtain ⟨k, m, h2⟩ := open_event h1
        exact ⟨(k, m), fun _ => h2⟩
      · exact ⟨(0, 0), fun h => absurd h hil⟩
    obtain ⟨f, hfe⟩ := Classical.axiomOfChoice hev
    refine ⟨some a, len0, cap0, fun i => (f i).1, fun i => (f i).2, rfl, hlc, hcm, ?_, fun i hi => (hfe i hi).2.2.1, fun i hi => (hfe i hi).2.2.2⟩
    by_cases h0 : len0 = 0
    · exact Or.inl h0
    · have hz := (hfe 0 (by omega)).1
      obtain ⟨b, o, sp⟩ := a
      have hsp : sp = none := by
        simp only [Nat.zero_mul, Addr.add, if_true] at hz
        unfold World.cell? at hz
        cases sp with
        | none => rfl
        | some q => split at hz <;> simp_all
      subst hsp
      refine Or.inr ⟨b, o, rfl, fun i hi => ?_, fun i hi => ?_⟩
      · have := (hfe i hi).1
        by_cases hz : i = 0
        · subst hz; simpa [Addr.add] using this
        · rw [Addr.add, if_neg (by omega)] at this; exact this
      · have := (hfe i hi).2.1
        by_cases hz : i = 0
        · subst hz; simpa [Addr.add] using this
        · rw [Addr.add, Addr.add, if_neg (by omega), if_neg (by omega)] at this; exact this
set_option maxRecDepth 100000 in
/-- A nil slice has no room. -/
theorem nil_events {H : Type} {enc : TypeId × Value → H} {w : World} {base : Nat} {spare : Nat → Bool} {held : Bool} {a : Option Addr} {n c : Nat} {d : DataW H} {p : List MemPlace}
    (h : DataW.Trod enc Tryd.prog w base spare held 22 (.slice a n c) d p) : a = none → c = 0 := by
  intro ha
  obtain ⟨fuel, hf⟩ := h
  rcases open_slice Tryd.underlying22 hf with ⟨hcs, _⟩ | ⟨a', len, cap, m, n, D, Pl, hcs, _⟩
  · simp [Value.cells] at hcs
    exact hcs.2.2
  · simp [Value.cells] at hcs
    rw [ha] at hcs
    exact absurd hcs.1 (by simp)

theorem gLet : Tryd.prog.globalNamed "proofmark/trace.letters" = some 0 := by kernel_rfl
theorem gLetType : (Tryd.prog.globals[0]?).map (·.type) = some 52 := by kernel_rfl
theorem cells52 : Tryd.prog.cellsOf 52 = 5 := by kernel_rfl
theorem cells9 : Tryd.prog.cellsOf 9 = 1 := by kernel_rfl

theorem gPowType : (Tryd.prog.globals[1]?).map (·.type) = some 92 := by kernel_rfl
theorem cells92 : Tryd.prog.cellsOf 92 = 20 := by kernel_rfl
theorem cells82 : Tryd.prog.cellsOf 82 = 1 := by kernel_rfl
theorem pow_data : (Rows.laid_internal_strconv_uint64pow10 : DataW Unit) = Lib.tabData .u64 Lib.pow10Tab := by kernel_rfl

/-- What the list's limbs on the table of powers and on the letters give. -/
theorem env_of_pow_letters {W : World} {rest rest' : List (String × DataW Unit)} (h1 : laidMet Tryd.prog (("internal/strconv.uint64pow10", Rows.laid_internal_strconv_uint64pow10) :: rest) W)
    (h2 : laidMet Tryd.prog (("proofmark/trace.letters", Rows.laid_proofmark_trace_letters) :: rest') W) : Env W := by
  refine ⟨?_, ?_⟩
  · rw [pow_data] at h1
    exact Lib.tabIs_of_head gPow gPowType Tryd.underlying92 Tryd.underlying82 cells82 cells92 h1
  · obtain ⟨ps, ⟨g', t', cs, fuel, p, q, hg', ht', hvar, hd, _, _⟩, _⟩ := h2
    obtain rfl := Option.some.inj (gLet.symm.trans hg')
    obtain rfl := Option.some.inj (gLetType.symm.trans ht')
    obtain ⟨xs, m, _, hx, hcl, hxl, hf⟩ := DataW.trod_array Tryd.underlying52 hd
    have hxs : xs.map (·.1) = [.lit (.string []), .lit (.string [82]), .lit (.string [80]), .lit (.string [69]), .lit (.string [83])] := by
      have := congrArg Prod.fst hx
      simp only [Rows.laid_proofmark_trace_letters] at this
      injection this with this
      exact this.symm
    intro i hi
    have h3 := hf i hi
    rw [cells9, Nat.mul_one] at h3
    have hix : i < xs.length := by omega
    rw [List.getElem?_eq_getElem hix] at h3
    obtain ⟨s, e1, e2, _⟩ := DataW.trod_string Tryd.underlying9 h3
    have e3 : (xs.map (·.1))[i]? = some (.lit (.string s.data.toList)) := by
      rw [List.getElem?_map, List.getElem?_eq_getElem hix, e2]; rfl
    rw [hxs] at e3
    have e4 : cs[i]? = some (.string s) := by
      have := congrArg (·[0]?) e1
      simpa [List.getElem?_take, List.getElem?_drop] using this
    have e5 := (World.var?_cell gLet hvar i).trans e4
    rw [e5]
    have e6 : s.data.toList = letterB i := by
      match i, hi with
      | 0, _ => simp at e3; first | exact e3.symm | (rw [← e3]; rfl) | (rw [e3]; rfl)
      | 1, _ => simp at e3; first | exact e3.symm | (rw [← e3]; rfl) | (rw [e3]; rfl)
      | 2, _ => simp at e3; first | exact e3.symm | (rw [← e3]; rfl) | (rw [e3]; rfl)
      | 3, _ => simp at e3; first | exact e3.symm | (rw [← e3]; rfl) | (rw [e3]; rfl)
      | 4, _ => simp at e3; first | exact e3.symm | (rw [← e3]; rfl) | (rw [e3]; rfl)
    rw [← e6]

/-- A reading stays. -/
theorem trod_keep {H : Type} {enc : TypeId × Value → H} {t : TypeId} (hr : Tryd.prog.readableRec t = true) (hrow : t < Tryd.prog.types.size) {W W' : World} {v : Value} {d : DataW H} {ps before : List MemPlace} {sp : Nat → Bool}
    (h : DataW.Trod enc Tryd.prog W 0 (fun _ => true) true t v d ps) (hb : Below W.heap.size W W') (hsub : ∀ x ∈ ps, x ∈ before) (hlt : ∀ x ∈ before, x.block < W.heap.size) (hs : ∀ x ∈ before, sp x.block = true) :
    DataW.Trod enc Tryd.prog W' 0 sp true t v d ps :=
  WideElems.Trod_stays (by kernel_rfl) hr hrow h (fun x hx => hb.same (hlt x (hsub x hx))) (fun x hx => hs x (hsub x hx))
end Go.Proofs.YtadcegfdojocmaaDoor
