/- The arguments of the statements on lex, opened: a slice of bytes; what the listed variables hold; a world for the witness. By an AI agent. -/
import Derived.Test.YtdbkchngpbahaaaDoorPlain
import Derived.ProofKit
import Derived.OpenShut
import Derived.Deep.Slices
import Derived.Deep.DeepHandedRow
import Derived.Deep.DeepWitnessRowRef
import Derived.Lib.LaidTab
import Derived.Stop.LaidErr
namespace Go.Proofs.YtdbkchngpbahaaaDoor
open Go.ChangeShapes Go.WideShapes Go.ChangeAt Go.RowKit Go.Deep

theorem cells5 : Tryd.prog.cellsOf 5 = 1 := by kernel_rfl
theorem cells9 : Tryd.prog.cellsOf 9 = 1 := by kernel_rfl
theorem cells95 : Tryd.prog.cellsOf 95 = 1 := by kernel_rfl
theorem gR : Tryd.prog.globalNamed "strconv.ErrRange" = some 1 := by kernel_rfl
theorem gRType : (Tryd.prog.globals[1]?).map (·.type) = some 52 := by kernel_rfl
theorem star : "*" ++ "errors.errorString" = "*errors.errorString" := by decide
theorem row93 (u : TypeId) (h : Tryd.prog.typeName? 3 u = some "*errors.errorString") : u = 93 :=
  typeName_ptr_named (nm := "errors.errorString") (by rw [star]; kernel_rfl) (by kernel_rfl) (by decide) u (by rw [star]; exact h)

/-- What the list's limb on ErrRange gives. -/
theorem env_of_laid {W : World} {rest : List (String × DataW Unit)} (h : laidMet Tryd.prog (("strconv.ErrRange", Rows.laid_strconv_ErrRange) :: rest) W) : EW W := by
  obtain ⟨a, s, hv, _, _, _⟩ := laid_sentinel h gR gRType Tryd.underlying52 row93 Tryd.underlying93 Tryd.underlying95 rfl rfl Tryd.underlying9 cells95 cells9
  exact ⟨_, by simpa using World.var?_cell gR hv 0, Or.inr ⟨_, _, rfl⟩⟩

set_option maxRecDepth 100000 in
/-- A slice of bytes. -/
theorem open_bytes {H : Type} {enc : TypeId × Value → H} {w : World} {base b0 : Nat} {spare : Nat → Bool} {held : Bool} {r : Reach} {v : Value} {d : DataW H} {p : List MemPlace}
    (hv : Value.okWide Tryd.prog w r b0 22 v) (h : DataW.Trod enc Tryd.prog w base spare held 22 v d p) :
    ∃ (a : Option Addr) (l : List UInt8) (c : Nat), v = .slice a l.length c ∧ l.length ≤ c ∧ c ≤ maxLen ∧ BytS w a l := by
  obtain ⟨a0, len0, cap0, rfl⟩ := okWide_slice Tryd.underlying22 hv
  obtain ⟨fuel, hf⟩ := h
  rcases open_slice Tryd.underlying22 hf with ⟨hcs, _⟩ | ⟨a, len, cap, m, n, D, Pl, hcs, hb, hlc, hcm, hm, _, hi⟩
  · simp [Value.cells] at hcs
    obtain ⟨rfl, rfl, rfl⟩ := hcs
    exact ⟨none, [], 0, rfl, Nat.le_refl _, Nat.zero_le _, Or.inl ⟨rfl, trivial⟩⟩
  · simp [Value.cells] at hcs
    obtain ⟨rfl, rfl, rfl⟩ := hcs
    have hlm : len0 ≤ m := by rw [hm]; split <;> omega
    have hev : ∀ i, ∃ k : UInt8, i < len0 → w.cell? (a.add i) = some (.int .u8 k.toNat) := by
      intro i
      by_cases hil : i < len0
      · have h1 := hi i (by omega)
        rw [cells5] at h1
        obtain ⟨cs, hc, ht⟩ := h1
        obtain ⟨_, hl, hat⟩ := World.cells?_some hc
        obtain ⟨k, e0, _, w0⟩ := DataW.trod_int Tryd.underlying5 ht
        obtain ⟨hk1, hk2⟩ : 0 ≤ k ∧ k ≤ 255 := bounds_u8 w0
        subst e0
        refine ⟨UInt8.ofNat k.toNat, fun _ => ?_⟩
        have h2 := hat 0 (by first | omega | simp | decide)
        have e : ((UInt8.ofNat k.toNat).toNat : Int) = k := by
          rw [UInt8.toNat_ofNat_of_lt' (by show k.toNat < 256; omega)]; omega
        rw [e]
        simpa [Addr.add] using h2
      · exact ⟨0, fun h => absurd h hil⟩
    obtain ⟨f, hfe⟩ := Classical.axiomOfChoice hev
    have hlen : ((List.range len0).map f).length = len0 := by simp
    refine ⟨some a, (List.range len0).map f, cap0, by rw [hlen], by rw [hlen]; exact hlc, hcm, ?_⟩
    by_cases h0 : len0 = 0
    · subst h0; exact Or.inl ⟨rfl, trivial⟩
    · have hz := hfe 0 (by omega)
      obtain ⟨b, o, sp⟩ := a
      have hsp : sp = none := by
        simp only [Addr.add, if_true] at hz
        unfold World.cell? at hz
        cases sp with
        | none => rfl
        | some q => split at hz <;> simp_all
      subst hsp
      refine Or.inr ⟨b, o, rfl, fun i hi => ?_⟩
      rw [hlen] at hi
      have := hfe i hi
      rw [List.getElem_map, List.getElem_range]
      by_cases hz : i = 0
      · subst hz; simpa [Addr.add] using this
      · rw [Addr.add, if_neg (by omega)] at this; exact this

/-- A reading stays. -/
theorem trod_keep {H : Type} {enc : TypeId × Value → H} {t : TypeId} (hr : Tryd.prog.readableRec t = true) (hrow : t < Tryd.prog.types.size) {W W' : World} {v : Value} {d : DataW H} {ps before : List MemPlace} {sp : Nat → Bool}
    (h : DataW.Trod enc Tryd.prog W 0 (fun _ => true) true t v d ps) (hb : Below W.heap.size W W') (hsub : ∀ x ∈ ps, x ∈ before) (hlt : ∀ x ∈ before, x.block < W.heap.size) (hs : ∀ x ∈ before, sp x.block = true) :
    DataW.Trod enc Tryd.prog W' 0 sp true t v d ps :=
  WideElems.Trod_stays (by kernel_rfl) hr hrow h (fun x hx => hb.same (hlt x (hsub x hx))) (fun x hx => hs x (hsub x hx))

theorem own : ownKnob Tryd.prog.godebug = none := by kernel_rfl

/-- A WORLD FOR THE WITNESS: the settled one, the listed variables holding what their initialisers lay. -/
noncomputable def put (g : Nat) (cs : Array Value) (h : Array Obj) : Array Obj := h.modify g fun
      | .cells _ t frozen => .cells cs t frozen
      | o => o
def bitsTab : List (DataW Unit) → Array Value := fun l => (l.map fun d => match d with | .lit (.int k n) => Value.int k n | .lit (.string b) => Value.string ⟨b.toArray⟩ | _ => undef).toArray
def parts : DataW Unit → List (DataW Unit) | .agg l => l | _ => []
abbrev rangeS : ByteArray := { data := #[118, 97, 108, 117, 101, 32, 111, 117, 116, 32, 111, 102, 32, 114, 97, 110, 103, 101] }
abbrev syntaxS : ByteArray := { data := #[105, 110, 118, 97, 108, 105, 100, 32, 115, 121, 110, 116, 97, 120] }
noncomputable def low : Nat := (World.holding Tryd.prog default ⟨#[], #[], []⟩).heap.size
noncomputable def laidWorld (os : Os) : World :=
  let w0 := World.holding Tryd.prog os ⟨#[.cells #[.string rangeS] 95, .cells #[.string syntaxS] 95], #[], []⟩
  { w0 with heap := put 5 (bitsTab (parts Rows.laid_math_bits_deBruijn64tab)) (put 4 (bitsTab (parts Rows.laid_math_bits_deBruijn32tab)) (put 3 (bitsTab (parts Rows.laid_internal_strconv_uint64pow10))
      (put 1 #[.iface 93 (.pointer (some ⟨low, 0, none⟩))] (put 0 #[.iface 93 (.pointer (some ⟨low + 1, 0, none⟩))] w0.heap)))) }
end Go.Proofs.YtdbkchngpbahaaaDoor
