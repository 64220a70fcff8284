/- The card of OptMeans: of any program, input and number of steps OptMeans answers true, and its arguments read as they did; no condition. By an AI agent. -/
import Derived.Test.YtgdibfnpkcdiiaaGreatDoorS30
import Derived.Test.YtgdibfnpkcdiiaaGreatDoorCards
import Derived.Test.YtgdibfnpkcdiiaaGreatDoorTie
set_option linter.all false
set_option maxRecDepth 100000
set_option maxHeartbeats 64000000
namespace Go.Proofs.YtgdibfnpkcdiiaaGreatDoor.means
open Go.ChangeShapes Go.WideShapes Go.ChangeAt Go.RowKit
theorem contract (H:Type) (enc:TypeId×Value→H) (W:World) (base:Nat) (args:Array Value) (ds gs:List (DataW H)) (before:List MemPlace)
  (hval:∀ (j:Nat) t v,Tryz.f10.params[j]? = some t→args[j]? = some v→Value.okWide Tryz.prog W .any base t v)
  (hW:DataW.Whole enc Tryz.prog Tryz.f10.params.toList Rows.optMeansSpec.vars false W args.toList ds gs before) :
  Calls Tryz.prog 10 args W fun e W'=>∃ v,e=.returned v∧Rows.optMeansSpec.post enc Tryz.prog Tryz.f10 false true false false W args v W':=by
 have hW':=hW
 have hlt:=fun p hp=>hW.lt p hp
 obtain ⟨p,q,hA0,hV,rfl,hfz,hnd⟩:=hW
 have hA:DataW.TrodAll enc Tryz.prog W 0 (fun _=>true) true Tryz.f10.params.toList args.toList ds p:=hA0
 rw [Tryz.params10] at hA hval
 obtain ⟨v0,v1,v2,d0,d1,d2,p0,p1,p2,rfl,rfl,rfl,h0,h1,h2⟩:=trodAll_three hA
 obtain ⟨rfl,rfl⟩:=trodVars_none hV
 obtain ⟨g0,rfl,hg0,hok0⟩:=Nu (hval 0 25 v0 rfl rfl) h0
 obtain ⟨I1,k1,c1,rfl,hi1,hk1,hz1⟩:=Po (hval 1 40 v1 rfl rfl) h1
 obtain ⟨n2,rfl,rfl,rfl,hw2⟩:=open_int Tryz.underlying68 (hval 2 68 v2 rfl rfl) h2
 obtain ⟨m2,hm2,hl2⟩:=TG hw2
 subst hm2
 clear hA0
 simp only [List.append_nil] at hW' hlt
 refine (PV g0 W hg0 hok0 I1 c1 k1 hi1 hk1 m2 hl2).mono fun e W' ⟨he,hbw⟩=>?_
 subst he
 have hold:∀ p∈p0 ++ p1,(fun b=>decide (b<W.heap.size)) p.block=true:=fun p hp=>by simpa using hlt p hp
 refine⟨_,rfl,_,_,p0 ++ p1,[],p0 ++ p1,[],hW',trodAll_cons_mk (shut_bool Tryz.underlying4 _) trodAll_mk0,?_,rfl,hbw.frame _,fun h=>by cases h⟩
 have:=trodAll_mk3 (Dq (sp:=fun b=>decide (b<W.heap.size)) (by kernel_rfl) (of_decide_eq_true (by kernel_rfl)) h0 hbw (fun x hx=>List.mem_append_left _ hx) hlt hold) (Dq (sp:=fun b=>decide (b<W.heap.size)) (by kernel_rfl) (of_decide_eq_true (by kernel_rfl)) h1 hbw (fun x hx=>List.mem_append_right _ hx) hlt hold) (shut_int Tryz.underlying68 hw2)
 simp only [List.append_nil] at this
 exact this
def Ep:Array Value:=#[.agg #[.slice none 0 0,.slice none 0 0,.int .i64 0],.slice none 0 0,.int .u16 0]
theorem Qw (os:Os):laidMetH Tryz.prog Rows.optMeansRow.laid ((wN os).forCall (fun _ _=>0) ⟨#[],Ep,[]⟩).memory :=
 laidMetH_of_parts (laidMet_of_run' 8 (by kernel_rfl) (by kernel_rfl)) (by kernel_rfl)
theorem reads (os:Os) {H:Type} (enc:TypeId×Value→H):∃ places,DataW.whole enc Tryz.prog ((wN os).forCall (fun _ _=>0) ⟨#[],Ep,[]⟩).memory Tryz.f10.params.toList Rows.optMeansSpec.vars false Ep.toList 8=some ([.agg [.nil,.nil,.lit (.int .i64 0)],.nil,.lit (.int .u16 0)],[],places) :=
 ⟨[],by kernel_rfl⟩
theorem lifted (os:Os) (started:os.Started) (H:Type) (enc:TypeId×Value→H) (F:Stop.Interp) :
  ReturnsInHanded {} Tryz.checked os 10 .any ((OpenSpec.ofChange Rows.optMeansSpec).preRow enc Tryz.prog Tryz.f10 Rows.optMeansRow.domain false Rows.optMeansRow.laid) (((OpenSpec.ofChange Rows.optMeansSpec).at F).post enc Tryz.prog Tryz.f10 false true false false):=by
 obtain ⟨places,hx⟩:=reads os enc
 refine returnsInHanded_of_row (C:=Tryz.checked) (s:=OpenSpec.ofChange Rows.optMeansSpec) own started (by kernel_rfl) Tryz.func10
  (witness_row_atRef (enc:=enc) (C:=Tryz.checked) false (wN os) Ep rfl (by kernel_rfl) (by kernel_rfl) (by kernel_rfl)
   (OpenSpec.preRow_of_cond 8 hx (by kernel_rfl) (fun k hk=>by cases hk) (by kernel_rfl) (Qw os))) ?_
 intro W base args ds gs before hval hW _ _ _ _ _ _
 exact contract H enc W base args ds gs before hval hW
theorem said:Rows.OptMeansSaid :=
 OpenClaim.holds_of_cond 10 Tryz.f10 rfl rfl rfl rfl rfl rfl rfl ⟨rfl,rfl,rfl,rfl,rfl⟩ rfl rfl rfl rfl rfl (by kernel_rfl) Tryz.func10 closed
  (of_decide_eq_true (by kernel_rfl)) (by unfold Func.isWrapper; first | (rw [if_pos (by decide +kernel)]; kernel_rfl) | (rw [if_neg (by decide +kernel)]; exact⟨rfl,rfl⟩))
  (fun os started H enc _ F=>by rw [OpenClaim.pre_eq_preRow]; exact lifted os started H enc F)
theorem plain (f:FuncId) (fn:Func) (hf:Tryz.pinned.checked.prog.funcNamed "proofmark/proofmarklaw19.OptMeans" = some f) (hfn:Tryz.pinned.checked.prog.funcs[f]? = some fn) :
  true=Tryz.pinned.checked.prog.looks []∧∀ (j:Nat) t,fn.params[j]? = some t→Tryz.pinned.checked.prog.wantsStandIn t=false:=by
 obtain rfl:f=10:=Option.some.inj ((show Tryz.prog.funcNamed "proofmark/proofmarklaw19.OptMeans" = some 10 by kernel_rfl).symm.trans hf) |>.symm
 obtain rfl:fn=Tryz.f10:=(Option.some.inj (Tryz.func10.symm.trans hfn)).symm
 refine⟨by kernel_rfl,fun j t ht=>?_⟩
 rw [Tryz.params10] at ht
 have h:=Array.mem_of_getElem? ht
 rcases (by simpa using h:t=25∨t=40∨t=68) with rfl | rfl | rfl
 ·exact (show Tryz.prog.wantsStandIn 25=false by kernel_rfl)
 ·exact (show Tryz.prog.wantsStandIn 40=false by kernel_rfl)
 ·exact (show Tryz.prog.wantsStandIn 68=false by kernel_rfl)
theorem card:Rows.OptMeansCardSaid :=
 Claim7.holds_tied_plain_at .later [] _ _ _ _ said (fun _ h=>by cases h) (by kernel_rfl) (fun _ h=>by cases h) optMeans_row_tie rfl ⟨rfl,rfl⟩ (by kernel_rfl) rfl plain (by kernel_rfl)
#print axioms card
end Go.Proofs.YtgdibfnpkcdiiaaGreatDoor.means
