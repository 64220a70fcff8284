/- Short names for the theorems of the library. By an AI agent. -/
import Derived.Test.YtgdibfnpkcdiiaaGreatDoorRzz
import Derived.Below
import Derived.ChangeArms
import Derived.Deep.MidRow
import Derived.IntWalk
import Derived.Laws.AppendOwn
import Derived.Laws.Entries
import Derived.Laws.Rows
import Derived.Laws.Sem
import Derived.Laws.World
import Derived.LoopN
import Derived.OpenShut
import Derived.OwnWalk
import Derived.Tactics
namespace Go.Proofs.YtgdibfnpkcdiiaaGreatDoor
open Go Go.RowKit
theorem jqa:type_of% @run_underlying:=@run_underlying
theorem jqe:type_of% @World.size_alloc:=@World.size_alloc
theorem jqf:type_of% @wp_region_lit:=@wp_region_lit
theorem jqs:type_of% @IntWalk.i64_in:=@IntWalk.i64_in
theorem jqx:type_of% @rounds_succ:=@rounds_succ
theorem jza:type_of% @wpList_nil:=@wpList_nil
theorem jzc:type_of% @Sem.run_pure:=@Sem.run_pure
theorem jzk:type_of% @wp_loop_rounds:=@wp_loop_rounds
theorem jzn:type_of% @DataW.trod_int:=@DataW.trod_int
theorem jxk:type_of% @heap_alloc_new:=@heap_alloc_new
theorem jxn:type_of% @wpList_append_own:=@wpList_append_own
theorem jxs:type_of% @wpList_store_mid:=@wpList_store_mid
theorem jxw:type_of% @info_parts:=@info_parts
theorem jxx:type_of% @bounds_i64:=@bounds_i64
theorem jjc:type_of% @Below.heap_setCell:=@Below.heap_setCell
end Go.Proofs.YtgdibfnpkcdiiaaGreatDoor
