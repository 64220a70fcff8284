/- What the listed variables hold, where a text is read: the letters, the table of powers, two sentinel errors; and a world for the witness. By an AI agent. -/
import Derived.Test.YtadcegfdojocmaaDoorRangeC
import Derived.Test.YtadcegfdojocmaaDoorOpen
import Derived.Deep.DeepHandedRow
import Derived.Deep.DeepWitnessRowRef
import Derived.Stop.LaidErr
namespace Go.Proofs.YtadcegfdojocmaaDoor
open Go.ChangeShapes Go.WideShapes Go.ChangeAt Go.RowKit Go.Deep

theorem cells125 : Tryd.prog.cellsOf 125 = 1 := by kernel_rfl
theorem gSynType : (Tryd.prog.globals[3]?).map (·.type) = some 68 := by kernel_rfl
theorem gRngType : (Tryd.prog.globals[4]?).map (·.type) = some 68 := by kernel_rfl
theorem star : "*" ++ "errors.errorString" = "*errors.errorString" := by decide
theorem row123 (u : TypeId) (h : Tryd.prog.typeName? 3 u = some "*errors.errorString") : u = 123 :=
  typeName_ptr_named (nm := "errors.errorString") (by rw [star]; kernel_rfl) (by kernel_rfl) (by decide) u (by rw [star]; exact h)
theorem envP_of_laid {W : World} {r1 r2 r3 r4 : List (String × DataW Unit)} (h1 : laidMet Tryd.prog (("internal/strconv.uint64pow10", Rows.laid_internal_strconv_uint64pow10) :: r1) W)
    (h2 : laidMet Tryd.prog (("strconv.ErrRange", Rows.laid_strconv_ErrRange) :: r2) W) (h3 : laidMet Tryd.prog (("strconv.ErrSyntax", Rows.laid_strconv_ErrSyntax) :: r3) W)
    (h4 : laidMet Tryd.prog (("proofmark/trace.letters", Rows.laid_proofmark_trace_letters) :: r4) W) : EnvP W := by
  obtain ⟨a, s, hv, _, _, _⟩ := laid_sentinel h2 gRng gRngType Tryd.underlying68 row123 Tryd.underlying123 Tryd.underlying125 rfl rfl Tryd.underlying9 cells125 cells9
  obtain ⟨a', s', hv', _, _, _⟩ := laid_sentinel h3 gSyn gSynType Tryd.underlying68 row123 Tryd.underlying123 Tryd.underlying125 rfl rfl Tryd.underlying9 cells125 cells9
  exact ⟨env_of_pow_letters h1 h4, ⟨_, _, hv'⟩, ⟨_, _, hv⟩⟩

theorem own : ownKnob Tryd.prog.godebug = none := by kernel_rfl
/-- A WORLD FOR THE WITNESS: the settled one, the listed variables holding what their initialisers lay. -/
noncomputable def put (g : Nat) (cs : Array Value) (h : Array Obj) : Array Obj := h.modify g fun
      | .cells _ t frozen => .cells cs t frozen
      | o => o
def litV : DataW Unit → Value | .lit (.int k n) => Value.int k n | .lit (.string b) => Value.string ⟨b.toArray⟩ | _ => undef
def bitsTab : List (DataW Unit) → Array Value := fun l => (l.flatMap fun d => match d with | .agg l => l.map litV | d => [litV d]).toArray
def parts : DataW Unit → List (DataW Unit) | .agg l => l | _ => []
abbrev rangeS : ByteArray := { data := #[118, 97, 108, 117, 101, 32, 111, 117, 116, 32, 111, 102, 32, 114, 97, 110, 103, 101] }
abbrev syntaxS : ByteArray := { data := #[105, 110, 118, 97, 108, 105, 100, 32, 115, 121, 110, 116, 97, 120] }
noncomputable def low : Nat := (World.holding Tryd.prog default ⟨#[], #[], []⟩).heap.size
noncomputable def laidWorld (os : Os) : World :=
  let w0 := World.holding Tryd.prog os ⟨#[.cells #[.string rangeS] 125, .cells #[.string syntaxS] 125], #[], []⟩
  { w0 with heap := put 7 (bitsTab (parts Rows.laid_unicode_utf8_first)) (put 8 (bitsTab (parts Rows.laid_unicode_utf8_acceptRanges)) (put 0 (bitsTab (parts Rows.laid_proofmark_trace_letters))
      (put 6 (bitsTab (parts Rows.laid_math_bits_deBruijn64tab)) (put 5 (bitsTab (parts Rows.laid_math_bits_deBruijn32tab)) (put 1 (bitsTab (parts Rows.laid_internal_strconv_uint64pow10))
      (put 4 #[.iface 123 (.pointer (some ⟨low, 0, none⟩))] (put 3 #[.iface 123 (.pointer (some ⟨low + 1, 0, none⟩))] w0.heap))))))) }
end Go.Proofs.YtadcegfdojocmaaDoor
