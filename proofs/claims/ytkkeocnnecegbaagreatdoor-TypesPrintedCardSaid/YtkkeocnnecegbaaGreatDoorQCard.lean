/- The card of TypesPrinted: whatever the source, TypesPrinted answers true, and its arguments read as they did; on the condition that the listed package variables hold what the program's text lays. By an AI agent. -/
import Derived.Test.YtkkeocnnecegbaaGreatDoorQ33
import Derived.Test.YtkkeocnnecegbaaGreatDoorQ31
import Derived.Test.YtkkeocnnecegbaaGreatDoorCards
import Derived.Test.YtkkeocnnecegbaaGreatDoorTie
set_option linter.all false
set_option maxRecDepth 100000
set_option maxHeartbeats 64000000
namespace Go.Proofs.YtkkeocnnecegbaaGreatDoor.printed
open Go.ChangeShapes Go.WideShapes Go.ChangeAt Go.RowKit
theorem et:Tryz.prog.globalNamed "errors.errorType" = some 0:=by kernel_rfl
theorem rt:(Tryz.prog.cutTypes.find? (·.1 == "internal/reflectlite.rtype")).map (·.2)=some 223:=by kernel_rfl
theorem JM:((List.range Tryz.prog.types.size).filter fun t=>Tryz.prog.rowNamed t [101,114,114,111,114])=[108]:=by kernel_rfl
theorem env {W:World} (h:laidMetH Tryz.prog Rows.typesPrintedRow.laid W) (hs:W.ShapedOpen Tryz.prog):kK W:=by
 have hh:laidMet Tryz.prog Rows.parseBackRow.laid W∧handlesMet Tryz.prog [("errors.errorType",Rows.laid_errors_errorType)] W:=h
 have h':=hh.1
 refine⟨⟨zA (laidMet.tail (laidMet.tail (laidMet.tail (laidMet.tail h')))),zn (laidMet.tail (laidMet.tail h')),wT hs⟩,?_⟩
 obtain ⟨name,u,ty,e1,e2,e3,e4,e5⟩:=hh.2 _ (List.mem_singleton.2 rfl)
 have en:name=[101,114,114,111,114]:=(Option.some.inj e1).symm
 subst en
 obtain rfl:=Option.some.inj (rt.symm.trans e2)
 have hm:ty∈(List.range Tryz.prog.types.size).filter fun t=>Tryz.prog.rowNamed t [101,114,114,111,114]:=List.mem_filter.2 ⟨List.mem_range.2 e3,e4⟩
 rw [JM] at hm
 obtain rfl:=List.mem_singleton.1 hm
 have hp:typeHandle Tryz.prog 108=.pointer (some ⟨9,108,none⟩):=by kernel_rfl
 rw [hp] at e5
 simpa using World.var?_cell et e5 0
noncomputable def oK (os:Os):World:={ uX os with heap:=put 0 #[.iface 223 (.agg #[.pointer (some ⟨9,108,none⟩)])] (uX os).heap }
theorem contract (H:Type) (enc:TypeId×Value→H) (W:World) (base:Nat) (args:Array Value) (ds gs:List (DataW H)) (before:List MemPlace)
  (hval:∀ (j:Nat) t v,Tryz.f12.params[j]? = some t→args[j]? = some v→Value.okWide Tryz.prog W .any base t v)
  (hW:DataW.Whole enc Tryz.prog Tryz.f12.params.toList Rows.typesPrintedSpec.vars false W args.toList ds gs before) (hL:laidMetH Tryz.prog Rows.typesPrintedRow.laid W) (hsh:W.ShapedOpen Tryz.prog) :
  Calls Tryz.prog 12 args W fun e W'=>∃ v,e=.returned v∧Rows.typesPrintedSpec.post enc Tryz.prog Tryz.f12 false true false false W args v W':=by
 have hW':=hW
 have hlt:=fun p hp=>hW.lt p hp
 obtain ⟨p0,q,hA0,hV,rfl,hfz,hnd⟩:=hW
 have hA:DataW.TrodAll enc Tryz.prog W 0 (fun _=>true) true Tryz.f12.params.toList args.toList ds p0:=hA0
 rw [Tryz.params12] at hA hval
 obtain ⟨v0,d0,rfl,rfl,h0⟩:=trodAll_one hA
 obtain ⟨rfl,rfl⟩:=trodVars_none hV
 obtain ⟨a0,l0,c0,rfl,hc0,hm0,ha0⟩:=CF (hval 0 30 v0 rfl rfl) h0
 clear hA0
 simp only [List.append_nil] at hW' hlt
 refine (zw a0 c0 l0 W ha0 (env hL hsh)).mono fun e W' ⟨he,hbw⟩=>?_
 subst he
 have hold:∀ p∈p0,(fun b=>decide (b<W.heap.size)) p.block=true:=fun p hp=>by simpa using hlt p hp
 refine⟨_,rfl,_,_,p0,[],p0,[],hW',trodAll_cons_mk (shut_bool Tryz.underlying4 _) trodAll_mk0,?_,rfl,hbw.frame _,fun h=>by cases h⟩
 have:=trodAll_mk1 (CQ (sp:=fun b=>decide (b<W.heap.size)) (by kernel_rfl) (of_decide_eq_true (by kernel_rfl)) h0 hbw (fun x hx=>hx) hlt hold)
 exact this
def vZ:Array Value:=#[.slice none 0 0]
theorem Ho (os:Os):laidMetH Tryz.prog Rows.typesPrintedRow.laid ((oK os).forCall (fun _ _=>0) ⟨#[],vZ,[]⟩).memory :=
 laidMetH_of_parts (laidMet_of_run' 8 (by kernel_rfl) (by kernel_rfl)) (by kernel_rfl)
theorem reads (os:Os) {H:Type} (enc:TypeId×Value→H):∃ places,DataW.whole enc Tryz.prog ((oK os).forCall (fun _ _=>0) ⟨#[],vZ,[]⟩).memory Tryz.f12.params.toList Rows.typesPrintedSpec.vars false vZ.toList 8=some ([.nil],[],places) :=
 ⟨[],by kernel_rfl⟩
theorem lifted (os:Os) (started:os.Started) (H:Type) (enc:TypeId×Value→H) (F:Stop.Interp) :
  ReturnsInHanded {} Tryz.checked os 12 .any ((OpenSpec.ofChange Rows.typesPrintedSpec).preRow enc Tryz.prog Tryz.f12 Rows.typesPrintedRow.domain false Rows.typesPrintedRow.laid) (((OpenSpec.ofChange Rows.typesPrintedSpec).at F).post enc Tryz.prog Tryz.f12 false true false false):=by
 obtain ⟨places,hx⟩:=reads os enc
 refine returnsInHanded_of_row (C:=Tryz.checked) (s:=OpenSpec.ofChange Rows.typesPrintedSpec) own started (by kernel_rfl) Tryz.func12
  (witness_row_atRef (enc:=enc) (C:=Tryz.checked) false (oK os) vZ rfl (by kernel_rfl) (by kernel_rfl) (by kernel_rfl)
   (OpenSpec.preRow_of_cond 8 hx (by kernel_rfl) (fun k hk=>by cases hk) (by kernel_rfl) (Ho os))) ?_
 intro W base args ds gs before hval hW _ _ _ hL hsh _
 exact contract H enc W base args ds gs before hval hW hL hsh
theorem said:Rows.TypesPrintedSaid :=
 OpenClaim.holds_of_cond 12 Tryz.f12 rfl rfl rfl rfl rfl rfl rfl ⟨rfl,rfl,rfl,rfl,rfl⟩ rfl rfl rfl rfl rfl (by kernel_rfl) Tryz.func12 closed
  (of_decide_eq_true (by kernel_rfl)) (by unfold Func.isWrapper; first | (rw [if_pos (by decide +kernel)]; kernel_rfl) | (rw [if_neg (by decide +kernel)]; exact⟨rfl,rfl⟩))
  (fun os started H enc _ F=>by rw [OpenClaim.pre_eq_preRow]; exact lifted os started H enc F)
theorem plain (f:FuncId) (fn:Func) (hf:Tryz.pinned.checked.prog.funcNamed "proofmark/proofmarklaw15.TypesPrinted" = some f) (hfn:Tryz.pinned.checked.prog.funcs[f]? = some fn) :
  true=Tryz.pinned.checked.prog.looks []∧∀ (j:Nat) t,fn.params[j]? = some t→Tryz.pinned.checked.prog.wantsStandIn t=false:=by
 obtain rfl:f=12:=Option.some.inj ((show Tryz.prog.funcNamed "proofmark/proofmarklaw15.TypesPrinted" = some 12 by kernel_rfl).symm.trans hf) |>.symm
 obtain rfl:fn=Tryz.f12:=(Option.some.inj (Tryz.func12.symm.trans hfn)).symm
 refine⟨by kernel_rfl,fun j t ht=>?_⟩
 rw [Tryz.params12] at ht
 have h:=Array.mem_of_getElem? ht
 obtain rfl:t=30:=by simp at h; omega
 exact (show Tryz.prog.wantsStandIn 30=false by kernel_rfl)
theorem card:Rows.TypesPrintedCardSaid :=
 Claim7.holds_tied_plain_at .later [] _ _ _ _ said (fun _ h=>by cases h) (by kernel_rfl) (fun _ h=>by cases h) typesPrinted_row_tie rfl ⟨rfl,rfl⟩ (by kernel_rfl) rfl plain (by kernel_rfl)
#print axioms card
end Go.Proofs.YtkkeocnnecegbaaGreatDoor.printed
