/- What the seat's cards want: how a reading stays; a world for the witness. By an AI agent. -/
import Derived.Test.YtgdibfnpkcdiiaaGreatDoorRows
import Derived.ProofKit
import Derived.OpenShut
import Derived.Deep.Slices
import Derived.Deep.DeepHandedRow
import Derived.Deep.DeepWitnessRowRef
import Derived.Lib.LaidTab
import Derived.Stop.LaidErr
namespace Go.Proofs.YtgdibfnpkcdiiaaGreatDoor
open Go.ChangeShapes Go.WideShapes Go.ChangeAt Go.RowKit Go.Deep

/-- A reading stays. -/
theorem trod_keep {H : Type} {enc : TypeId × Value → H} {t : TypeId} (hr : Tryz.prog.readableRec t = true) (hrow : t < Tryz.prog.types.size) {W W' : World} {v : Value} {d : DataW H} {ps before : List MemPlace} {sp : Nat → Bool}
    (h : DataW.Trod enc Tryz.prog W 0 (fun _ => true) true t v d ps) (hb : Below W.heap.size W W') (hsub : ∀ x ∈ ps, x ∈ before) (hlt : ∀ x ∈ before, x.block < W.heap.size) (hs : ∀ x ∈ before, sp x.block = true) :
    DataW.Trod enc Tryz.prog W' 0 sp true t v d ps :=
  WideElems.Trod_stays (by kernel_rfl) hr hrow h (fun x hx => hb.same (hlt x (hsub x hx))) (fun x hx => hs x (hsub x hx))

theorem own : ownKnob Tryz.prog.godebug = none := by kernel_rfl

/-- A WORLD FOR THE WITNESS: the settled one, the listed variables holding what their initialisers lay. -/
noncomputable def put (g : Nat) (cs : Array Value) (h : Array Obj) : Array Obj := h.modify g fun
      | .cells _ t frozen => .cells cs t frozen
      | o => o
def bitsTab : List (DataW Unit) → Array Value := fun l => (l.map fun d => match d with | .lit (.int k n) => Value.int k n | .lit (.string b) => Value.string ⟨b.toArray⟩ | _ => undef).toArray
def parts : DataW Unit → List (DataW Unit) | .agg l => l | _ => []
abbrev rangeS : ByteArray := { data := #[118, 97, 108, 117, 101, 32, 111, 117, 116, 32, 111, 102, 32, 114, 97, 110, 103, 101] }
abbrev syntaxS : ByteArray := { data := #[105, 110, 118, 97, 108, 105, 100, 32, 115, 121, 110, 116, 97, 120] }
noncomputable def low : Nat := (World.holding Tryz.prog default ⟨#[], #[], []⟩).heap.size
noncomputable def laidWorld (os : Os) : World :=
  let w0 := World.holding Tryz.prog os ⟨#[.cells #[.string rangeS] 402, .cells #[.string syntaxS] 402], #[], []⟩
  { w0 with heap := put 1 #[.iface 351 (.agg #[.pointer (some ⟨9, 88, none⟩)])] (put 7 (bitsTab (parts Rows.laid_unicode_utf8_first)) (put 8 (bitsTab ((parts Rows.laid_unicode_utf8_acceptRanges).flatMap parts)) (put 3 (bitsTab (parts Rows.laid_math_bits_deBruijn64tab)) (put 2 (bitsTab (parts Rows.laid_math_bits_deBruijn32tab)) (put 0 (bitsTab (parts Rows.laid_internal_strconv_uint64pow10))
      (put 5 #[.iface 400 (.pointer (some ⟨low, 0, none⟩))] (put 4 #[.iface 400 (.pointer (some ⟨low + 1, 0, none⟩))] w0.heap))))))) }
end Go.Proofs.YtgdibfnpkcdiiaaGreatDoor
