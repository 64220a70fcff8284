/- Regions, as code. No condition. -/
import Derived.Test.YtgdibfnpkcdiiaaGreatDoorEwE
namespace Go.Proofs.YtgdibfnpkcdiiaaGreatDoor
namespace Ev

section
variable {P : Program} {K : Kon} {call : Nat → St → RS} {n : Nat} {ops : Array Oper} {g : Gh} {st : St} {w : World} {a : Act}

/-- What is asked of what follows a region. -/
def After (K : Kon) (n : Nat) (g : Gh) (st : St) (w : World) (stF : St) (a' : Act) (w' : World) : Prop :=
  ∃ g', K.In g' ∧ HR g' stF w' ∧ Fr g w g' w' ∧ Ext st.R st.nR stF.R stF.nR ∧ FR g' stF a' n

theorem cnt_rep (m : Nat) : cnt (Array.replicate m false) = m := by
  unfold cnt
  rw [Array.toList_replicate, List.filter_replicate]
  simp

theorem drawn_ok (hm : P.follows .mixedOrders = true) (hc : CallV P K call) (hk : K.In g) (hh : HR g st w) (hf : FR g st a n) {y : Nat} {stF : St} {l : List Stp} {p : Plan} (hp : chkP P K n ops p = true) (hmc : cDrawP P K ops p = .reg l) (hr : runS call l st = .ok y stF)
    {id : Nat} {Q : Exit → Act → World → Prop} (hQ : ∀ w' a', After K n g st w stF a' w' → Q .normal a' w') : (Code.region id ops true).wp P Q a w := by
  unfold cDrawP at hmc
  split at hmc
  · rename_i l' hl
    injection hmc with hmc
    subst hmc
    · simp only [chkP, planB, Bool.and_eq_true] at hp
      obtain ⟨hpa, ⟨⟨⟨⟨hgl, p2⟩, p3⟩, p4⟩, p6⟩, p5⟩ := hp
      rw [List.all_eq_true] at p2 p4 p6
      have hac : ∀ i, p.ac = some i → ∃ o d zs el vf, ops[i]? = some o ∧ o.dst = some d ∧ AcV P K o zs el vf := fun i hi => by
        unfold acB at hpa
        rw [hi] at hpa
        dsimp only at hpa
        cases ho : ops[i]? with
        | none => rw [ho] at hpa; cases hpa
        | some o =>
          rw [ho] at hpa
          obtain ⟨zs, el, vf, hv⟩ := acO_ok hk hpa
          have h1 := hpa
          simp only [acO, Bool.and_eq_true] at h1
          obtain ⟨_, d, hd⟩ := acC_spec h1.1
          exact ⟨o, d, zs, el, vf, rfl, hd, hv⟩
      have hflo : ∀ i ∈ p.fl, i < ops.size ∧ (oiAt (ops.toList.map (oiOf P ops)) i).q = true := fun i hi => by
        have := p2 i hi
        simp only [Bool.and_eq_true] at this
        exact ⟨blt_t this.1, this.2⟩
      have hh0 : HR g st { w with drawn := w.drawn + 1 } := hh.drew _
      obtain ⟨g3, st3, b3, l3, k1, k2, k3, k4, k5, k6, k7, k8, k9⟩ := floats_ok (n := n) (call := call) p.fl (p.ck.map .chk ++ itms p.st) g st a l' y stF hk hh0 hf (fun i hi => by
        obtain ⟨f1, f2⟩ := hflo i hi
        have hoi : ops[i]? = some ops[i] := Array.getElem?_eq_getElem f1
        refine ⟨_, hoi, (oiq hoi f2).1, ?_⟩
        have := (gl_spec hgl f1).2.1
        rw [oiAt_eq hoi] at this; exact this) hl hr
      obtain ⟨q1, l4, q2, q3⟩ := chks_ok p.ck (itms p.st) l3 y stF k8 k9
      have hno : ∀ i, (Array.replicate ops.size false).getD i false = false := fun i => by
        rw [Array.getD_eq_getD_getElem?, Array.getElem?_replicate]
        split <;> rfl
      refine wp_region_any hm (drawn_go (g0 := g) (st0 := st) (w0 := w) hc hgl hac (fun g' w' a' e1 e2 e3 e4 e5 => hQ w' a' ⟨g', e1, e2, e3, e4, e5⟩) ops.size p.st _ p.fl [] g3 st3 _ b3 a l4
        ⟨hk.le k2.le, k1, (Fr.drew g w _).trans k2, k4, k3, k5.symm, k6.symm, fun t ht ht2 => ?_, fun i hi => ?_, fun i hi _ => ⟨(hflo i hi).1, (hflo i hi).2, q1 i (by simpa using p4 i hi)⟩, fun i hi => by simp at hi, fun i hi => ?_, by simp, fun i hi j hj => ?_⟩ (by rw [cnt_rep]; exact Nat.le_refl _) q2 q3 p5)
      · rw [k7 t fun i hi o ho => ?_]
        have := ht i hi (hno i)
        rw [oiAt_eq ho] at this; exact this
      · rw [hno] at hi; cases hi
      · rw [hno] at hi; cases hi
      · have := p6 i hi
        unfold subB at this
        rw [List.all_eq_true] at this
        simpa using this j hj
  · cases hmc

/-- A region in the text's order. -/
theorem plain_go (hc : CallV P K call) {Q : Exit → Act → World → Prop} {y : Nat} {g0 : Gh} {st0 : St} {w0 : World} {stF : St} (hQ : ∀ w' a', After K n g0 st0 w0 stF a' w' → Q .normal a' w') :
    ∀ (os : List Oper) (k : Nat) (l : List Stp) (g : Gh) (st : St) (w : World) (a : Act), (∀ j, os[j]? = ops[k + j]?) → (∀ o ∈ os, ltO n o.dst = true) → cReg P K ops os = some l → runS call l st = .ok y stF →
      K.In g → HR g st w → Fr g0 w0 g w → Ext st0.R st0.nR st.R st.nR → FR g st a n → wpOps P ops Q (List.range' k os.length) a w
  | [], k, l, g, st, w, a, _, _, hl, hr, hk, hh, hfr, hx, hf => by
    injection hl with hl
    subst hl
    change RS.ok 0 st = .ok y stF at hr
    injection hr with _ hr
    subst hr
    exact hQ w a ⟨g, hk, hh, hfr, hx, hf⟩
  | o :: os, k, l, g, st, w, a, hj, hd, hl, hr, hk, hh, hfr, hx, hf => by
    simp only [cReg] at hl
    split at hl
    · rename_i s r hs hrr
      injection hl with hl
      subst hl
      obtain ⟨x, st1, e1, e2⟩ := cStp_cons hs hr
      have ho : ops[k]? = some o := by simpa using (hj 0).symm
      rw [List.length_cons, List.range'_succ, wpOps_cons]
      refine stepE_ok hc hk hh hf ho (fun d hdd => by have := hd o (by simp); rw [hdd] at this; exact blt_t this) e1 fun g1 w1 a1 h1 h2 h3 h4 => ?_
      exact plain_go hc hQ os (k + 1) r g1 _ w1 a1 (fun j => by have := hj (j + 1); simpa [Nat.add_assoc, Nat.add_comm 1 j] using this) (fun o ho => hd o (by simp [ho])) hrr e2 (hk.le h2.le) h1 (hfr.trans h2) (hx.trans h4) h3
    · cases hl

theorem plain_ok (hc : CallV P K call) (hk : K.In g) (hh : HR g st w) (hf : FR g st a n) {y : Nat} {stF : St} {l : List Stp} (hd : dstB n ops = true) (hl : cReg P K ops ops.toList = some l) (hr : runS call l st = .ok y stF)
    {id : Nat} {Q : Exit → Act → World → Prop} (hQ : ∀ w' a', After K n g st w stF a' w' → Q .normal a' w') : (Code.region id ops false).wp P Q a w := by
  refine wp_region ?_
  have := plain_go (ops := ops) hc hQ ops.toList 0 l g st w a (fun j => by simp) (fun o ho => by
    unfold dstB at hd
    rw [List.all_eq_true] at hd
    exact hd o ho) hl hr hk hh (Fr.refl _ _) (Ext.refl _ _) hf
  rw [Array.length_toList, ← List.range_eq_range'] at this
  exact this

end
end Ev
end Go.Proofs.YtgdibfnpkcdiiaaGreatDoor
