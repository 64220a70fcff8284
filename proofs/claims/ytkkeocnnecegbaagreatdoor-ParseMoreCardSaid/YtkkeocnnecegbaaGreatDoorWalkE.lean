/- The walk over strconv.ParseUint at 31 bits, and over Lex. By an AI agent. -/
import Derived.Test.YtkkeocnnecegbaaGreatDoorPlain
namespace Go.Proofs.YtkkeocnnecegbaaGreatDoor
open Go.RowKit

set_option maxHeartbeats 1000000 in
theorem uint_ok (t : ByteArray) (v : Nat) (hne : t.size ≠ 0) (hmax : t.size ≤ 1000000) (hdg : ∀ c ∈ t.data.toList, isDig c = true) (hv : Lib.parseUintM 2147483647 0 t.data.toList = .ok v) (w : World) :
    Calls Tryz.prog 62 #[.string t, .int .i64 10, .int .i64 31] w fun e w' => e = .returned (.tuple #[.int .u64 v, .nilIface]) ∧ Below w.heap.size w w' := by
  have HC := Lib.hid (uint31_any t hne hmax hdg w)
  rw [hv] at HC
  clear hdg hv
  have hb : Below w.heap.size w (Lib.bytesWorld w 5 t) := Lib.bytesWorld_below w 5 t
  go_enter Tryz.func62, Tryz.ntmps62
  go_wp2_with (go_at_call 105; refine HC.out.mono ?_; rintro e w' ⟨rfl, rfl⟩; simp only [Lib.uintTupleM])
  go_ret2
  exact ⟨rfl, hb⟩

set_option maxHeartbeats 1000000 in
theorem uint_range (t : ByteArray) (hne : t.size ≠ 0) (hmax : t.size ≤ 1000000) (hdg : ∀ c ∈ t.data.toList, isDig c = true) (hv : Lib.parseUintM 2147483647 0 t.data.toList = .range) (w : World) (hw : EW w) :
    Calls Tryz.prog 62 #[.string t, .int .i64 10, .int .i64 31] w fun e w' => ∃ N, e = .returned (.tuple #[.int .u64 2147483647, .iface 209 (.pointer (some ⟨N, 0, none⟩))]) ∧ Below w.heap.size w w' := by
  have HC := Lib.hid (uint31_any t hne hmax hdg w)
  rw [hv] at HC
  clear hdg hv
  have hb : Below w.heap.size w (Lib.bytesWorld w 5 t) := Lib.bytesWorld_below w 5 t
  obtain ⟨ev, he1, he2⟩ := hw.below hb
  have HE := Lib.hid he2; have HB := Lib.hid hb; have HE1 := Lib.hid he1
  clear he1 he2 hb hw
  go_enter Tryz.func62, Tryz.ntmps62
  go_wp2_with (first
    | (go_at_call 105; refine HC.out.mono ?_; rintro e w' ⟨rfl, rfl⟩; simp only [Lib.uintTupleM])
    | (go_at_call 106; refine (Tryz.strconv_toError_range _ t 10 31 ev _ (by omega) HE1.out HE.out).mono ?_; rintro e w2 ⟨N, rfl, _, _, hb2⟩))
  go_ret2
  exact ⟨N, rfl, below_next HB.out hb2⟩
end Go.Proofs.YtkkeocnnecegbaaGreatDoor
