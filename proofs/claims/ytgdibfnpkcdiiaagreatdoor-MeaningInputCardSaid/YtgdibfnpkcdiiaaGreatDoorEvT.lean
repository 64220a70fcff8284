/- Operations on maps: they are right. No condition. -/
import Derived.Test.YtgdibfnpkcdiiaaGreatDoorEvS
namespace Go.Proofs.YtgdibfnpkcdiiaaGreatDoor
namespace Ev

theorem ad_zero (M n : Nat) : ad M n 0 = M := Nat.eq_of_testBit_eq fun j => by rw [bit_ad]; simp

section
variable {P : Program} {K : Kon} {o : Oper} {g : Gh} {st : St} {w : World}

theorem HR.newMap (h : HR g st w) {cw : Nat} (hcw : cw < 2 ^ 128) {o : Obj} (hm : MapR (g.put st.nM (.map w.heap.size)) cw o) :
    HR (g.put st.nM (.map w.heap.size)) { st with M := ad st.M st.nM cw, nM := st.nM + 1 + 1 } (w.alloc o) ∧ Fr g w (g.put st.nM (.map w.heap.size)) (w.alloc o) := by
  refine ⟨?_, Fr.alloc h _ (fun b base z room hb => by cases hb) (fun b hb => by injection hb with h1; exact h1.symm)⟩
  refine HR.grown h (i := .map w.heap.size) (cw := cw) (cw_more (n := 1) hcw) (by simp) ?_ ?_ (fun _ _ _ _ hi => by cases hi) (fun ws hw => by cases hw) ?_
  · intro s blk base z room c' e' fr' _ hc
    exact ⟨c', e', fr', push_old hc.heap, rfl, hc.one, fun _ => ⟨rfl, rfl⟩⟩
  · intro s blk hs
    obtain ⟨o, ho, _⟩ := h.maps s blk hs
    rw [push_old ho, ho]
  · intro blk hb
    injection hb with hb
    subst hb
    refine ⟨⟨o, push_new _ _, by rw [gt_word _ hcw, if_pos rfl]; exact hm⟩, fun s hs => absurd (own_lt h (.inr ⟨s, hs⟩)) (by omega)⟩

theorem HR.mapSet (h : HR g st w) {s blk : Nat} (hr : g.rho s = .map blk) {m : Nat} (hm : m < 2 ^ 128) {o : Obj} (hmr : MapR g m o) :
    HR g { st with M := up st.M s 1 m } { w with heap := w.heap.setIfInBounds blk o } ∧ Fr g w g { w with heap := w.heap.setIfInBounds blk o } := by
  obtain ⟨o0, ho0, hm0⟩ := h.maps s blk hr
  have hlt : blk < w.heap.size := (Array.getElem?_eq_some_iff.1 ho0).1
  have hnew : (w.heap.setIfInBounds blk o)[blk]? = some o := by simp [hlt]
  have hold : ∀ b, b ≠ blk → (w.heap.setIfInBounds blk o)[b]? = w.heap[b]? := fun b hb => by simp [Ne.symm hb]
  have hcw : m < 2 ^ (128 * 1) := hm
  have ht := h.top s (by rw [hr]; simp)
  rw [hr] at ht
  have ez : (Info.map blk).size = 1 := rfl
  rw [ez] at ht
  have far : ∀ s', s' ≠ s → g.rho s' ≠ .free → ∀ j, j ≤ (g.rho s').size → gt (up st.M s 1 m) (s' + j) = gt st.M (s' + j) := fun s' hs' hf j hj => by
    rw [gt_up _ _ _ hcw, if_neg]
    rcases Nat.lt_or_gt_of_ne hs' with hlt | hgt
    · have := h.disj s' s hlt hf (by rw [hr]; simp); omega
    · have := h.disj s s' hgt (by rw [hr]; simp) hf
      rw [hr, ez] at this; omega
  have notc : ∀ s' b base z room, g.rho s' = .cells b base z room → b ≠ blk := fun s' b base z room hs' e => by
    subst e
    obtain ⟨c, t, fr, hc⟩ := h.cells s' b base z room hs'
    rw [hc.heap] at ho0; injection ho0 with ho0; subst ho0
    obtain ⟨_, _, _, _, _, _, _, _, _, _, _, h6, _⟩ := hm0
    cases h6
  have live : ∀ s' z' b base r, g.rho s' = .cells b base z' r → (Live (up st.M s 1 m) s' z' ↔ Live st.M s' z') := by
    intro s' z' b ba r e'
    have es : s' ≠ s := by rintro rfl; rw [hr] at e'; cases e'
    constructor <;> rintro ⟨j, hj, hg⟩ <;> refine ⟨j, hj, ?_⟩
    · rwa [far s' es (by rw [e']; simp) j (by rw [e']; exact Nat.le_of_lt hj)] at hg
    · rwa [far s' es (by rw [e']; simp) j (by rw [e']; exact Nat.le_of_lt hj)]
  refine ⟨⟨h.S, h.nS, h.Slt, up_lt h.Mlt (Nat.le_of_lt ht) hcw, h.Rlt, h.top, h.disj, ?_, ?_, ?_, ?_, h.minj⟩, ⟨rfl, rfl, rfl, by simp, Gh.le.refl _, fun b _ hb => ?_, fun _ _ h => h⟩⟩
  · intro s' b base z room hs'
    obtain ⟨c, e, fr, hc⟩ := h.cells s' b base z room hs'
    have es : s' ≠ s := by rintro rfl; rw [hr] at hs'; cases hs'
    refine ⟨c, e, fr, by show (w.heap.setIfInBounds blk o)[b]? = _; rw [hold b (notc _ _ _ _ _ hs')]; exact hc.heap, hc.size, hc.room, hc.one, fun j hj => ?_, fun hl => hc.thaw ((live s' z b base room hs').1 hl)⟩
    show VR g (gt (up st.M s 1 m) (s' + j)) _
    rw [far s' es (by rw [hs']; simp) j (by rw [hs']; exact Nat.le_of_lt hj)]
    exact hc.vr j hj
  · intro s' ws hs' i hi
    have es : s' ≠ s := by rintro rfl; rw [hr] at hs'; cases hs'
    show gt (up st.M s 1 m) (s' + i) = _
    rw [far s' es (by rw [hs']; simp) i (by rw [hs']; exact Nat.le_of_lt hi)]
    exact h.rows s' ws hs' i hi
  · intro s' b hs'
    by_cases es : s' = s
    · subst es
      rw [hr] at hs'; injection hs' with hb; subst hb
      refine ⟨o, hnew, ?_⟩
      show MapR g (gt (up st.M s' 1 m) s') o
      rw [gt_up _ _ _ hcw, if_pos (by omega), Nat.sub_self, gt_word _ hm, if_pos rfl]; exact hmr
    · obtain ⟨x, hx, hmx⟩ := h.maps s' b hs'
      have hb : b ≠ blk := fun e => es (h.minj s' s blk (by rw [hs', e]) hr)
      refine ⟨x, by show (w.heap.setIfInBounds blk o)[b]? = _; rw [hold b hb]; exact hx, ?_⟩
      have := far s' es (by rw [hs']; simp) 0 (Nat.zero_le _)
      rw [Nat.add_zero] at this
      show MapR g (gt (up st.M s 1 m) s') x
      rw [this]; exact hmx
  · intro s1 s2 b base1 z1 room1 base2 z2 room2 hne h1 h2 l1 l2
    exact h.inj s1 s2 b base1 z1 room1 base2 z2 room2 hne h1 h2 ((live s1 z1 _ _ _ h1).1 l1) ((live s2 z2 _ _ _ h2).1 l2)
  · refine hold b fun eb => hb ?_
    subst eb; exact .inr ⟨s, hr⟩

/-! ### make -/
theorem opMm_ok {t : TypeId} {nv : Nat} (ho : o.op = .makeMap t none) (hv : nv < 256) : OpV P K o (opMm nv) := fun g st a w x st' hk hh hy e => by
  unfold opMm at e
  obtain ⟨h1, e⟩ := sel_ok e
  rw [fc_eq] at e
  injection e with e1 e2
  have h1 := blt_t h1
  simp only [nA] at e1 e2 h1
  obtain ⟨r1, r2⟩ := hh.row [] (cw := 0) (by simp) (fun i hi => by simp at hi)
  simp only [List.length_nil, Nat.add_zero, ad_zero] at r1
  have hlt : eMp 0 nv st.nM < 2 ^ 128 := eMp_lt (by omega) hv (by omega)
  have hf : (g.put st.nM (.row [])).rho (st.nM + 1) = .free := rho_top r1 (Nat.le_refl _)
  obtain ⟨q1, q2⟩ := r1.newMap (cw := eMp 0 nv st.nM) hlt (o := .map #[] 0) ⟨0, nv, st.nM, [], #[], 0, rfl, by omega, hv, by omega, by
    rw [Gh.put_rho, if_neg (by show st.nM ≠ st.nM + 1; omega), Gh.put_rho, if_pos rfl], rfl, rfl, by simp, fun i hi => by simp at hi⟩
  subst e2
  refine ⟨_, _, .map (some w.heap.size), .inl ?_, ⟨q1, r2.trans q2, Ext.refl _ _, ?_, rfl, rfl⟩, fun q => absurd q (by simp [ho, quietB])⟩
  · simp [execOp, ho, Instr.makeMap]
  · rw [← e1]
    exact .cell _ _ (.map (st.nM + 1) w.heap.size h1 (by rw [Gh.put_rho, if_pos rfl]))

end
end Ev
end Go.Proofs.YtgdibfnpkcdiiaaGreatDoor
