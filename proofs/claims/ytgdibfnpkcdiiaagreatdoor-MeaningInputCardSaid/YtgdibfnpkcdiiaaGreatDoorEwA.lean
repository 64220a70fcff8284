/- One operation of a region, whatever it is: what the evaluator's step says of it. No condition. -/
import Derived.Test.YtgdibfnpkcdiiaaGreatDoorEvZ
namespace Go.Proofs.YtgdibfnpkcdiiaaGreatDoor
namespace Ev

section
variable {P : Program} {K : Kon} {call : Nat → St → RS} {g : Gh} {st : St} {w : World} {o : Oper} {a : Act}

theorem cBin_op (op : BinOp) (t : TypeId) (x y : Operand) : ∃ f, cBin P K op t x y = .op f := by
  unfold cBin cSe
  repeat' split
  all_goals exact ⟨_, rfl⟩
theorem cConv_op (s d : TypeId) (x : Operand) : ∃ f, cConv P K s d x = .op f := by
  unfold cConv
  repeat' split
  all_goals exact ⟨_, rfl⟩
theorem cCall_op (b : Builtin) (ts : Array TypeId) (args : List Operand) : ∃ f, cCall P K b ts args = .op f := by
  unfold cCall
  repeat' split
  all_goals exact ⟨_, rfl⟩
theorem cBuild_op (t : TypeId) (parts : Array (Nat × Operand)) : ∃ f, cBuild P K t parts = .op f := by
  unfold cBuild
  repeat' split
  all_goals exact ⟨_, rfl⟩
theorem cBuildS_op (t : TypeId) (len : Nat) (parts : Array (Nat × Operand)) : ∃ f, cBuildS P K t len parts = .op f := by
  unfold cBuildS
  repeat' split
  all_goals exact ⟨_, rfl⟩
theorem cSlice_op (t : TypeId) (x : Operand) (lo hi mx : Option Operand) : ∃ f, cSlice P K t x lo hi mx = .op f := by
  unfold cSlice
  repeat' split
  all_goals exact ⟨_, rfl⟩
theorem cIndex_op (t : TypeId) (x y : Operand) : ∃ f, cIndex P K t x y = .op f := by
  unfold cIndex
  repeat' split
  all_goals exact ⟨_, rfl⟩
theorem cField_op (t : TypeId) (x : Operand) (j : Nat) : ∃ f, cField P K t x j = .op f := by
  unfold cField
  repeat' split
  all_goals exact ⟨_, rfl⟩
theorem cMap_op {t : TypeId} {k : Nat → Nat → CO} (h : ∀ kt nv, ∃ f, k kt nv = .op f) : ∃ f, cMap P t k = .op f := by
  unfold cMap
  repeat' split
  all_goals first | exact h _ _ | exact ⟨_, rfl⟩
theorem if_op {c : Prop} [Decidable c] {x y : CO} (hx : ∃ f, x = .op f) (hy : ∃ f, y = .op f) : ∃ f, (if c then x else y) = .op f := by
  split
  · exact hx
  · exact hy

theorem cOper_op (P : Program) (K : Kon) (o : Oper) : ∃ f, cOper P K o = .op f := by
  unfold cOper
  repeat' split
  all_goals first | exact ⟨_, rfl⟩ | exact cBin_op _ _ _ _ | exact cConv_op _ _ _ | exact cCall_op _ _ _ | exact cBuild_op _ _ | exact cBuildS_op _ _ _ | exact cSlice_op _ _ _ _ _ | exact cIndex_op _ _ _ | exact cField_op _ _ _ |
    exact cMap_op fun _ _ => ⟨_, rfl⟩ | exact cMap_op fun _ _ => if_op ⟨_, rfl⟩ ⟨_, rfl⟩

/-- A quiet operation, run by the evaluator. -/
theorem quiet_ok (hk : K.In g) (hh : HR g st w) (hy : ∀ y ∈ o.op.operands, TR g st.R st.nR (rd st.T (cOp K y)) (a.eval y)) {x : Nat} {st' : St} (hq : quietB P o.op = true) (e : runCO call (cO P K o) st = .ok x st') :
    ∃ g' w' v, ((execOp a.eval o).run P w = .ok (.value v) w' ∨ ((execOp a.eval o).run P w = .ok .skip w' ∧ v = undef)) ∧ Post g st w g' st' w' x v ∧ HR g' st' w ∧ Fr g w g' w ∧ Harm w w' := by
  have hco : cO P K o = cOper P K o := by
    unfold cO
    split
    · rename_i ho; rw [ho] at hq; simp [quietB] at hq
    · rename_i ho; rw [ho] at hq; simp [quietB] at hq
    · rename_i ho; rw [ho] at hq; simp [quietB] at hq
    · rfl
  obtain ⟨f, hf⟩ := cOper_op P K o
  rw [hco, hf] at e
  obtain ⟨g', w', v, h1, h2, h3⟩ := cOper_ok hf g st a w x st' hk hh hy e
  refine ⟨g', w', v, h1, h2, ?_⟩
  rcases h3 hq with rfl | ⟨rfl, rfl, h4⟩
  · exact ⟨h2.hr, h2.fr, Harm.refl _⟩
  · exact ⟨hh, Fr.refl _ _, h4⟩

theorem isFn_func {R nR : Nat} {fw : Nat} {v : Value} (h : TR g R nR fw v) (hf : isFn fw = true) : ∃ fv first cap, v = .func fv first cap := by
  unfold isFn at hf
  cases h1 : Nat.beq (Nat.mod fw 16) 10 with
  | true =>
    have h1 : fw % 16 = 10 := beq_t h1
    obtain ⟨_, _, _, _, _, _, _, _, e, _⟩ := (h.cell_inv (by omega) (by omega) (by omega) (by omega)).func_inv h1
    exact ⟨_, _, _, e⟩
  | false =>
    rw [h1, sel_false] at hf
    have h2 : fw % 16 = 15 := beq_t hf
    obtain ⟨_, _, e, _⟩ := (h.cell_inv (by omega) (by omega) (by omega) (by omega)).fn0_inv h2
    exact ⟨_, _, _, e⟩

theorem wp_callR {f : Nat} {args : Array Value} {B : Value → World → Prop} {next : Act → World → Prop} {Q : Exit → Act → World → Prop} (h : CallR P f args w B) (hr : (execOp a.eval o).run P w = (callFunc f args).run P w) (hn : ∀ v w', B v w' → next (a.put o.dst v) w') :
    o.wp P a w next Q := by
  unfold Oper.wp
  rw [hr]
  rcases h with ⟨h1, h2⟩ | ⟨v, w', h1, h2⟩
  · rw [h1, Oper.upon_enter]
    exact h2.mono fun e w' ⟨v, e1, e2⟩ => by subst e1; exact hn v w' e2
  · rw [h1, Oper.upon_value]; exact hn v w' h2

/-- Any operation, run by the evaluator. -/
theorem step_ok (hc : CallV P K call) (hk : K.In g) (hh : HR g st w) (hy : ∀ y ∈ o.op.operands, TR g st.R st.nR (rd st.T (cOp K y)) (a.eval y)) (hd : DR g st.R st.nR st.D a.defers) {x : Nat} {st' : St}
    (e : runCO call (cO P K o) st = .ok x st') {next : Act → World → Prop} {Q : Exit → Act → World → Prop}
    (hn : ∀ g' w' v ds', SPost g st w g' st' w' x v a.defers ds' → next (({ a with defers := ds' } : Act).put o.dst v) w') : o.wp P a w next Q := by
  unfold cO at e
  split at e
  · rename_i f args ts ho
    have hy' : ∀ y ∈ args.toList, TR g st.R st.nR (rd st.T (cOp K y)) (a.eval y) := fun y hm => hy y (by rw [ho]; simp only [Op.operands, Call.operands]; simp; exact .inr (by simpa using hm))
    have hargs : args.map a.eval = (args.toList.map a.eval).toArray := by apply Array.ext'; simp
    have hcall : CallR P f (args.map a.eval) w fun v w' => ∃ g', Post g st w g' st' w' x v := by
      change calls call f (args.toList.map (cOp K)).length (rowN (rds st.T (args.toList.map (cOp K)))) st = .ok x st' at e
      refine calls_ok hc hk hh (by simp) (fun i => ?_) (fun i hi => ?_) e
      · rw [gt_rowN _ _ (rds_lt hy'), hargs]; exact args_map hy' i
      · rw [gt_rowN _ _ (rds_lt hy'), List.getD_eq_getElem?_getD, List.getElem?_eq_none (by simp [rds] at hi ⊢; omega)]; rfl
    refine wp_callR hcall ?_ fun v w' ⟨g', hp⟩ => hn g' w' v a.defers (hp.spost hd)
    simp [execOp, ho, resolve, Act.eval, Deferred.ofValue, invoke]
  · rename_i fx args ts hnf ho
    have hy' : ∀ y ∈ args.toList, TR g st.R st.nR (rd st.T (cOp K y)) (a.eval y) := fun y hm => hy y (by rw [ho]; simp only [Op.operands, Call.operands]; simp; exact .inr (by simpa using hm))
    have hfx := hy fx (by rw [ho]; simp [Op.operands, Call.operands])
    have hargs : args.map a.eval = (args.toList.map a.eval).toArray := by apply Array.ext'; simp
    change dyn call (rd st.T (cOp K fx)) (rds st.T (args.toList.map (cOp K))) st = .ok x st' at e
    obtain ⟨f, first, cap, ev, hcall⟩ := dyn_ok hc hk hh (args := args.map a.eval) hfx (by simp [rds]) (rds_lt hy') (fun i => by rw [hargs]; exact args_map hy' i) e
    refine wp_callR hcall ?_ fun v w' ⟨g', hp⟩ => hn g' w' v a.defers (hp.spost hd)
    simp [execOp, ho, resolve, ev, Deferred.ofValue, invoke]
  · rename_i fx args ts ho
    have hy' : ∀ y ∈ args.toList, TR g st.R st.nR (rd st.T (cOp K y)) (a.eval y) := fun y hm => hy y (by rw [ho]; simp only [Op.operands, Call.operands]; simp; exact .inr (by simpa using hm))
    have hfx := hy fx (by rw [ho]; simp [Op.operands, Call.operands])
    have hargs : args.map a.eval = (args.toList.map a.eval).toArray := by apply Array.ext'; simp
    change sel (isFn (rd st.T (cOp K fx))) (RS.ok 14 { st with D := (rd st.T (cOp K fx), rds st.T (args.toList.map (cOp K))) :: st.D }) .no = .ok x st' at e
    obtain ⟨h1, e⟩ := sel_ok e
    injection e with e1 e2
    obtain ⟨fv, first, cap, ev⟩ := isFn_func hfx h1
    have hrun : (execOp a.eval o).run P w = .ok (.defer { target := .fn fv cap, args := first ++ args.map a.eval }) w := by
      simp [execOp, ho, resolve, ev, Deferred.ofValue]
    unfold Oper.wp
    rw [hrun, Oper.upon_defer]
    subst e2
    refine hn g w undef _ ⟨hh.frame _ _ hh.Rlt, Fr.refl _ _, Ext.refl _ _, by rw [← e1]; exact .und, rfl, .cons ⟨fv, first, cap, args.map a.eval, by rw [← ev]; exact hfx, h1, rfl, by simp [rds], rds_lt hy', fun i => by rw [hargs]; exact args_map hy' i⟩ hd⟩
  · obtain ⟨f, hf⟩ := cOper_op P K o
    rw [hf] at e
    obtain ⟨g', w', v, h1, h2, h3⟩ := cOper_ok hf g st a w x st' hk hh hy e
    unfold Oper.wp
    rcases h1 with h1 | ⟨h1, rfl⟩
    · rw [h1, Oper.upon_value]; exact hn g' w' v a.defers (h2.spost hd)
    · rw [h1, Oper.upon_skip]; exact hn g' w' undef a.defers (h2.spost hd)

end
end Ev
end Go.Proofs.YtgdibfnpkcdiiaaGreatDoor
