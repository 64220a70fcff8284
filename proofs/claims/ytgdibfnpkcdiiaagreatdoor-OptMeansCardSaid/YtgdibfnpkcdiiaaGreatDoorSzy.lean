/- Short names for the theorems of the library. By an AI agent. -/
import Derived.Test.YtgdibfnpkcdiiaaGreatDoorSzz
import Derived.Below
import Derived.ChangeArms
import Derived.Deep.AppendLies
import Derived.Deep.MidRow
import Derived.IntWalk
import Derived.Laws.AppendOwn
import Derived.Laws.Entries
import Derived.Laws.Rows
import Derived.Laws.Sem
import Derived.Laws.World
import Derived.LoopN
import Derived.OpenShut
import Derived.OwnWalk
import Derived.Tactics
set_option linter.all false
namespace Go.Proofs.YtgdibfnpkcdiiaaGreatDoor
open Go Go.RowKit
def jqa:type_of% @run_underlying:=@run_underlying
def jqh:type_of% @World.size_alloc:=@World.size_alloc
def jqn:type_of% @wp_region_lit:=@wp_region_lit
def jqr:type_of% @Below.heap_setCell:=@Below.heap_setCell
def jqv:type_of% @IntWalk.i64_in:=@IntWalk.i64_in
def jzi:type_of% @wpList_nil:=@wpList_nil
def jzk:type_of% @Sem.run_pure:=@Sem.run_pure
def jzw:type_of% @DataW.trod_int:=@DataW.trod_int
def jzx:type_of% @rounds_succ:=@rounds_succ
def jxg:type_of% @heap_alloc_new:=@heap_alloc_new
def jxo:type_of% @info_parts:=@info_parts
def jxp:type_of% @bodyPost_ret:=@bodyPost_ret
def jxu:type_of% @wp_loop_rounds:=@wp_loop_rounds
def jxx:type_of% @wpList_append_own:=@wpList_append_own
def jxy:type_of% @bounds_i64:=@bounds_i64
def jxz:type_of% @World.cell?_of_block:=@World.cell?_of_block
def jje:type_of% @wpList_store_mid:=@wpList_store_mid
def jjf:type_of% @results_cell_row:=@results_cell_row
def jji:type_of% @World.news_of_block:=@World.news_of_block
end Go.Proofs.YtgdibfnpkcdiiaaGreatDoor
