/- Calls by number and by value: what is asked of the evaluator of functions, and what a call then does. No condition. -/
import Derived.Test.YtgdibfnpkcdiiaaGreatDoorEvV
import Derived.Defers
import Derived.LoopN
namespace Go.Proofs.YtgdibfnpkcdiiaaGreatDoor
namespace Ev

structure CPost (g : Gh) (st : St) (w : World) (g' : Gh) (st' : St) (w' : World) (x : Nat) (v : Value) : Prop where
  hr : HR g' st' w'
  fr : Fr g w g' w'
  ext : Ext st.R st.nR st'.R st'.nR
  tr : TR g' st'.R st'.nR x v

/-- A function is entered and returns so; or it is none of Go's own and answers at once. -/
def CallR (P : Program) (f : Nat) (args : Array Value) (w : World) (B : Value → World → Prop) : Prop :=
  ((callFunc f args).run P w = .ok (.enter f args) w ∧ Calls P f args w fun e w' => ∃ v, e = .returned v ∧ B v w') ∨ ∃ v w', (callFunc f args).run P w = .ok (.value v) w' ∧ B v w'

theorem CallR.mono {P : Program} {f : Nat} {args : Array Value} {w : World} {B B' : Value → World → Prop} (h : CallR P f args w B) (k : ∀ v w', B v w' → B' v w') : CallR P f args w B' := by
  rcases h with ⟨h1, h2⟩ | ⟨v, w', h1, h2⟩
  · exact .inl ⟨h1, h2.mono fun e w' ⟨v, e1, e2⟩ => ⟨v, e1, k v w' e2⟩⟩
  · exact .inr ⟨v, w', h1, k v w' h2⟩

/-- The evaluator of functions is right; for any way of calling them. -/
def CallG (Rel : Nat → Array Value → World → (Value → World → Prop) → Prop) (K : Kon) (call : Nat → St → RS) : Prop :=
  ∀ (f : Nat) (g : Gh) (st : St) (w : World) (args : Array Value) (x : Nat) (st' : St), K.In g → HR g st w → st.D = [(args.size, [])] → (∀ i, TR g st.R st.nR (gt st.T i) (args.getD i undef)) → (∀ i, args.size ≤ i → gt st.T i = 0) → call f st = .ok x st' →
    Rel f args w fun v w' => ∃ g', CPost g st w g' st' w' x v
def MonoR (Rel : Nat → Array Value → World → (Value → World → Prop) → Prop) : Prop := ∀ f args w B B', Rel f args w B → (∀ v w', B v w' → B' v w') → Rel f args w B'
abbrev CallV (P : Program) (K : Kon) (call : Nat → St → RS) : Prop := CallG (CallR P) K call
theorem callR_mono (P : Program) : MonoR (CallR P) := fun _ _ _ _ _ h k => h.mono k
/-- One that is called when another one is left. -/
def CallDR (P : Program) (f : Nat) (args : Array Value) (w : World) (B : Value → World → Prop) : Prop :=
  (callFunc f args).run P w = .ok (.enter f args) w ∧ CallsD P f args .returning w fun e u' w' => ∃ v, e = .returned v ∧ u' = .returning ∧ B v w'
theorem callDR_mono (P : Program) : MonoR (CallDR P) := fun _ _ _ _ _ h k => ⟨h.1, h.2.mono fun _ _ _ ⟨v, e1, e2, e3⟩ => ⟨v, e1, e2, k _ _ e3⟩⟩

theorem TR.drop {g : Gh} {R nR : Nat} (R' nR' : Nat) {w : Nat} {v : Value} (h : TR g R nR w v) (hk : keep w = false) : TR g R' nR' w v := by
  cases h with
  | unk v => exact .unk v
  | und => exact .und
  | cell _ _ h => exact .cell _ _ h
  | agg st n =>
    exfalso
    have : keep (eAgg st n) = true := by
      unfold keep
      have : Nat.mod (eAgg st n) 16 = 12 := by show eAgg st n % 16 = 12; unfold eAgg; omega
      rw [this]; rfl
    rw [this] at hk; cases hk
  | tup st n =>
    exfalso
    have : keep (eTup st n) = true := by
      unfold keep
      have : Nat.mod (eTup st n) 16 = 13 := by show eTup st n % 16 = 13; unfold eTup; omega
      rw [this]; rfl
    rw [this] at hk; cases hk

/-! Memory as it was ahead of a call that changed nothing older. -/
theorem VR.back {g g1 : Gh} (h : g.le g1) {w : Nat} {v0 v : Value} (h0 : VR g w v0) (h1 : VR g1 w v) : VR g w v := by
  induction h0 generalizing v with
  | unk v0 _ => exact .unk _ h1.one
  | sym j hj ho =>
    obtain ⟨j', e1, e2, e3, e4⟩ := h1.sym_inv (by unfold eSym; omega) (by unfold eSym; omega)
    have e5 : j = j' := by unfold eSym at e1; omega
    subst e5
    rw [e2, h.rh]; exact .sym j hj ho
  | bool b =>
    obtain ⟨b', e1, e2⟩ := h1.bool_inv (by cases b <;> decide)
    rw [e2, e1]; exact .bool b'
  | int k n a1 a2 =>
    obtain ⟨k', n', e1, e2, e3, e4⟩ := h1.int_inv (by have := kc_lt k; unfold eInt; omega)
    rw [e2, e1]; exact .int k' n' e3 e4
  | str st l a1 a2 a3 =>
    obtain ⟨st', l', e1, e2, e3, e4, e5⟩ := h1.str_inv (by unfold eStr; omega)
    have e6 : st = st' ∧ l = l' := by unfold eStr at e1; omega
    obtain ⟨rfl, rfl⟩ := e6
    rw [e2, strOf_le h a2]; exact .str st l a1 a2 a3
  | pnil => rw [h1.pnil_inv (by omega)]; exact .pnil
  | ptr s z o blk base room hs hz hr ho =>
    obtain ⟨s', z', o', blk', base', room', e1, e2, e3, e4, e5, e6⟩ := h1.ptr_inv (by unfold ePtr; omega)
    have e7 : s = s' ∧ z = z' ∧ o = o' := by unfold ePtr at e1; omega
    obtain ⟨rfl, rfl, rfl⟩ := e7
    rw [h.rho s (by rw [hr]; simp), hr] at e5
    injection e5 with b1 b2 b3 b4
    subst b1; subst b2; subst b4
    rw [e2]; exact .ptr s z o blk base room hs hz hr ho
  | snil => rw [h1.snil_inv (by omega)]; exact .snil
  | sli s z l e o blk base room cap ad hs hz hl he hr ho hcp ha =>
    obtain ⟨s', z', l', e', o', blk', base', room', cap', ad', e1, e2, e3, e4, e5, e6, e7, e8, e9, e10⟩ := h1.sli_inv (by unfold eSli; omega)
    have q1 : o ≤ z := Nat.le_trans (Nat.le_add_right _ _) ho
    have q2 : o' ≤ z' := Nat.le_trans (Nat.le_add_right _ _) e8
    have e11 : s = s' ∧ z = z' ∧ l = l' ∧ e = e' ∧ o = o' := by unfold eSli at e1; omega
    obtain ⟨rfl, rfl, rfl, rfl, rfl⟩ := e11
    rw [h.rho s (by rw [hr]; simp), hr] at e7
    injection e7 with b1 b2 b3 b4
    subst b1; subst b2; subst b4
    rw [e2]; exact .sli s z l e o blk base room cap' ad' hs hz hl he hr ho e9 e10
  | semp ad => obtain ⟨ad', e⟩ := h1.semp_inv rfl; rw [e]; exact .semp ad'
  | mnil => rw [h1.mnil_inv rfl]; exact .mnil
  | map s blk hs hr =>
    obtain ⟨s', blk', e1, e2, e3, e4⟩ := h1.map_inv (by unfold eMap; omega)
    have e5 : s = s' := by unfold eMap at e1; omega
    subst e5
    rw [h.rho s (by rw [hr]; simp), hr] at e4
    injection e4 with b1
    subst b1
    rw [e2]; exact .map s blk hs hr
  | fnil => rw [h1.fnil_inv rfl]; exact .fnil
  | inil => rw [h1.inil_inv rfl]; exact .inil
  | func f m n s ws first cap hf hm hn hs hr hm' hn' hw _ _ i1 i2 =>
    obtain ⟨f', m', n', s', ws', first', cap', e1, e2, e3, e4, e5, e6, e7, e8, e9, e10, e11, e12⟩ := h1.func_inv (by unfold eFun; omega)
    have e13 : f = f' ∧ m = m' ∧ n = n' ∧ s = s' := by unfold eFun at e1; omega
    obtain ⟨rfl, rfl, rfl, rfl⟩ := e13
    rw [h.rho s (by rw [hr]; simp), hr] at e7
    injection e7 with b1
    subst b1
    rw [e2]
    exact .func f m n s ws first' cap' hf hm hn hs hr e8 e9 hw (fun i hi => i1 i hi (e11 i hi)) (fun i hi => i2 i hi (e12 i hi))
  | fn0 f hf =>
    obtain ⟨f', e1, e2, e3⟩ := h1.fn0_inv (by unfold eFn0; omega)
    have : f = f' := by unfold eFn0 at e1; omega
    subst this
    rw [e2]; exact .fn0 f hf
  | ifc t s u v0 ht hs hr hv hz ih =>
    obtain ⟨t', s', u', x, e1, e2, e3, e4, e5, e6, e7⟩ := h1.ifc_inv (by unfold eIfc; omega)
    have e8 : t = t' ∧ s = s' := by unfold eIfc at e1; omega
    obtain ⟨rfl, rfl⟩ := e8
    rw [h.rho s (by rw [hr]; simp), hr] at e5
    injection e5 with b1
    injection b1 with b1 _
    subst b1
    rw [e2]; exact .ifc t s u x ht hs hr (ih e6) hz

theorem MapR.back {g g' : Gh} (hle : g.le g') {m : Nat} {o o0 : Obj} (h : MapR g' m o) (h0 : MapR g m o0) : MapR g m o := by
  obtain ⟨c, nv, s, ws, es, clock, h1, h2, h3, h4, h5, h6, h7, h8, h9⟩ := h
  obtain ⟨c', nv', s', ws', es', clock', k1, k2, k3, k4, k5, k6, k7, k8, k9⟩ := h0
  have e := h1.symm.trans k1
  unfold eMp at e
  have e1 : c = c' := by omega
  have e2 : nv = nv' := by omega
  have e3 : s = s' := by omega
  subst e1; subst e2; subst e3
  have hr := hle.rho s (by rw [k5]; simp)
  have hws : ws = ws' := by rw [h5, k5] at hr; injection hr
  subst hws
  refine ⟨c, nv, s, ws, es, clock, h1, h2, h3, h4, k5, h6, h7, h8, fun i hi => ?_⟩
  obtain ⟨a1, a2⟩ := h9 i hi
  obtain ⟨b1, b2⟩ := k9 i (by omega)
  refine ⟨b1.back hle a1, ?_⟩
  unfold ValR at a2 b2 ⊢
  split
  · rename_i hnv
    rw [if_pos hnv] at a2 b2
    exact b2.back hle a2
  · rename_i hnv
    rw [if_neg hnv] at a2 b2
    obtain ⟨vs, c1, c2, c3⟩ := a2
    obtain ⟨us, d1, d2, d3⟩ := b2
    exact ⟨vs, c1, c2, fun j hj => (d3 j hj).back hle (c3 j hj)⟩

theorem back_ok {g g' : Gh} {st s : St} {w w' : World} (h : HR g st w) (k : HR g' s w') (f : Fr g w g' w') (hag : ∀ i, i < st.nM → gt s.M i = gt st.M i) :
    HR g st w' ∧ Fr g w g w' := by
  refine ⟨⟨h.S, h.nS, h.Slt, h.Mlt, h.Rlt, h.top, h.disj, fun a blk base z room hr => ?_, h.rows, fun a blk hr => ?_, h.inj, h.minj⟩, ⟨f.os, f.tape, f.output, f.size, Gh.le.refl _, f.keep, fun _ _ ho => ho⟩⟩
  · obtain ⟨c, e, fr, hc⟩ := k.cells a blk base z room (by rw [f.le.rho a (by rw [hr]; simp), hr])
    obtain ⟨c0, e0, fr0, hc0⟩ := h.cells a blk base z room hr
    have ht := h.top a (by rw [hr]; simp)
    rw [hr] at ht
    have ht : a + z < st.nM := ht
    refine ⟨c, e, fr, hc.heap, hc.size, hc.room, hc.one, fun o ho => ?_, fun hl => hc.thaw ?_⟩
    · have := hc.vr o ho
      rw [hag (a + o) (by omega)] at this
      exact (hc0.vr o ho).back f.le this
    · obtain ⟨o, ho, hn⟩ := hl
      exact ⟨o, ho, by rw [hag (a + o) (by omega)]; exact hn⟩
  · obtain ⟨o, ho, hm⟩ := k.maps a blk (by rw [f.le.rho a (by rw [hr]; simp), hr])
    obtain ⟨o0, _, hm0⟩ := h.maps a blk hr
    have ht := h.top a (by rw [hr]; simp)
    rw [hag a (by omega)] at hm
    exact ⟨o, ho, hm.back f.le hm0⟩

theorem gt_low {M M' n : Nat} (h : Nat.land M' (Nat.sub (Nat.pow 2 (Nat.mul 128 n)) 1) = M) (i : Nat) (hi : i < n) : gt M' i = gt M i := by
  have h : ch M' 0 n = M := h
  rw [← h, gt_ch, if_pos hi, Nat.zero_add]

theorem small_tr {g : Gh} {R nR w : Nat} {v : Value} (g2 : Gh) (R2 nR2 : Nat) (h : TR g R nR w v) (hs : small w = true) : TR g2 R2 nR2 w v := by
  have hs : w % 16 = 1 ∨ w % 16 = 2 := by
    unfold small at hs
    cases h1 : Nat.beq (Nat.mod w 16) 1 with
    | true => exact .inl (beq_t h1)
    | false => rw [h1, sel_false] at hs; exact .inr (beq_t hs)
  have hv := h.cell_inv (by omega) (by omega) (by omega) (by intro e; subst e; omega)
  rcases hs with hs | hs
  · obtain ⟨b, e1, e2⟩ := hv.bool_inv hs
    rw [e1, e2]; exact .cell _ _ (.bool b)
  · obtain ⟨k, n, e1, e2, e3, e4⟩ := hv.int_inv hs
    rw [e1, e2]; exact .cell _ _ (.int k n e3 e4)

section
variable {P : Program} {K : Kon} {call : Nat → St → RS} {g : Gh} {st : St} {w : World}

theorem cpT_ok {g : Gh} {R' nR' s R nR : Nat} {vs : Array Value} (hR : R < 2 ^ (128 * nR)) : ∀ (k : Nat) (q : R3), (∀ i, i < k → TR g R' nR' (gt R' (s + i)) (vs.getD i undef)) → cpT R' s R nR k = some q →
    q.R < 2 ^ (128 * q.n) ∧ Ext R nR q.R q.n ∧ q.c < 2 ^ (128 * k) ∧ ∀ i, i < k → TR g q.R q.n (gt q.c i) (vs.getD i undef)
  | 0, q, _, e => by
    have e : some (R3.mk R nR 0) = some q := e
    injection e with e
    subst e
    exact ⟨hR, Ext.refl _ _, by simp, fun i hi => absurd hi (by omega)⟩
  | k + 1, q, hv, e0 => by
    cases hc : cpT R' s R nR k with
    | none =>
      have e : Option.rec none (fun q => R3.rec (fun R1 n1 c => fc (gt R' (Nat.add s k)) fun w => sel (keep w) (sel (Nat.beq (Nat.mod w 16) 12) (sel (Nat.blt n1 4294967296) (some ⟨ad R1 n1 (ch R' (sa w) (ln w)), Nat.add n1 (ln w), ad c k (eAgg n1 (ln w))⟩) none) none) (some ⟨R1, n1, ad c k w⟩)) q) (cpT R' s R nR k) = some q := e0
      rw [hc] at e
      cases e
    | some p =>
      have e : Option.rec none (fun q => R3.rec (fun R1 n1 c => fc (gt R' (Nat.add s k)) fun w => sel (keep w) (sel (Nat.beq (Nat.mod w 16) 12) (sel (Nat.blt n1 4294967296) (some ⟨ad R1 n1 (ch R' (sa w) (ln w)), Nat.add n1 (ln w), ad c k (eAgg n1 (ln w))⟩) none) none) (some ⟨R1, n1, ad c k w⟩)) q) (cpT R' s R nR k) = some q := e0
      rw [hc] at e
      obtain ⟨R1, n1, c⟩ := p
      obtain ⟨k1, k2, k3, k4⟩ := cpT_ok hR k ⟨R1, n1, c⟩ (fun i hi => hv i (by omega)) hc
      dsimp only at k1 k2 k3 k4
      have hw := hv k (by omega)
      have e : sel (keep (gt R' (s + k))) (sel (Nat.beq (Nat.mod (gt R' (s + k)) 16) 12) (sel (Nat.blt n1 4294967296) (some ⟨ad R1 n1 (ch R' (sa (gt R' (s + k))) (ln (gt R' (s + k)))), Nat.add n1 (ln (gt R' (s + k))), ad c k (eAgg n1 (ln (gt R' (s + k))))⟩) none) none) (some ⟨R1, n1, ad c k (gt R' (s + k))⟩) = some q := e
      generalize gt R' (s + k) = w at hw e
      have hc1 : ∀ (y : Nat), y < 2 ^ 128 → ad c k y < 2 ^ (128 * (k + 1)) := fun y hy => ad_lt k3 (by simpa using hy)
      have hg : ∀ (y : Nat), y < 2 ^ 128 → ∀ i, i < k + 1 → gt (ad c k y) i = if i < k then gt c i else y := fun y hy i hi => by
        rw [gt_ad _ _ k3]
        split
        · rfl
        · rw [show i - k = 0 by omega, gt_word _ hy, if_pos rfl]
      cases hk : keep w with
      | false =>
        rw [hk, sel_false] at e
        injection e with e
        subst e
        refine ⟨k1, k2, hc1 _ hw.lt, fun i hi => ?_⟩
        dsimp only
        rw [hg _ hw.lt i hi]
        split
        · exact k4 i ‹_›
        · rw [show i = k by omega]; exact hw.drop _ _ hk
      | true =>
        rw [hk, sel_true] at e
        cases h12 : Nat.beq (Nat.mod w 16) 12 with
        | false => rw [h12, sel_false] at e; cases e
        | true =>
          rw [h12, sel_true] at e
          cases hb : Nat.blt n1 4294967296 with
          | false => rw [hb, sel_false] at e; cases e
          | true =>
            rw [hb, sel_true] at e
            injection e with e
            subst e
            have hb := blt_t hb
            obtain ⟨us, b1, b2, b3, b4, b5, b6, b7⟩ := hw.agg' (beq_t h12)
            have hl : ln w < 16777216 := by assumption
            have hch : ch R' (sa w) (ln w) < 2 ^ (128 * ln w) := ch_lt _ _ _
            have hex : Ext R1 n1 (ad R1 n1 (ch R' (sa w) (ln w))) (n1 + ln w) := Ext.ad _ _ k1
            have hwd : eAgg n1 (ln w) < 2 ^ 128 := by unfold eAgg; omega
            refine ⟨ad_lt k1 hch, k2.trans hex, hc1 _ hwd, fun i hi => ?_⟩
            dsimp only
            rw [hg _ hwd i hi]
            split
            · exact (k4 i ‹_›).mono (Gh.le.refl _) hex
            · rw [show i = k by omega, b2]
              refine .agg n1 (ln w) us hl hb (Nat.le_refl _) b6 fun j hj => ?_
              rw [gt_ad _ _ k1, if_neg (by omega), show n1 + j - n1 = j by omega, gt_ch, if_pos hj]
              exact b7 j hj

/-- Back in the caller's frame. -/
theorem fin_ok {r : RS} {x : Nat} {st' : St} (e : fin st r = .ok x st') (hh : HR g st w) : ∃ y s, r = .ok y s ∧ ∀ {g' : Gh} {w' : World} {v : Value}, HR g' s w' → Fr g w g' w' → Ext st.R st.nR s.R s.nR → TR g' s.R s.nR y v → ∃ g2, Post g st w g2 st' w' x v := by
  cases r with
  | no => cases e
  | ok y s =>
    refine ⟨y, s, rfl, ?_⟩
    unfold fin at e
    dsimp only at e
    rw [fc_eq] at e
    cases hk : keep y with
    | true =>
      rw [hk, sel_true] at e
      unfold finK at e
      cases h12 : Nat.beq (Nat.mod y 16) 12 with
      | true =>
        rw [h12, sel_true] at e
        have e : sel (Nat.blt st.nR 4294967296) (.ok (eAgg st.nR (ln y)) ⟨st.T, st.D, ad st.R st.nR (ch s.R (sa y) (ln y)), Nat.add st.nR (ln y), s.M, s.nM, s.S, s.nS⟩) .no = RS.ok x st' := e
        obtain ⟨hb, e⟩ := sel_ok e
        have hb := blt_t hb
        injection e with e1 e2
        intro g' w' v p1 p2 p3 p4
        obtain ⟨us, b1, b2, b3, b4, b5, b6, b7⟩ := p4.agg' (beq_t h12)
        have hl : ln y < 16777216 := by assumption
        have hch : ch s.R (sa y) (ln y) < 2 ^ (128 * ln y) := ch_lt _ _ _
        subst e1; subst e2
        refine ⟨g', p1.frame _ _ (ad_lt hh.Rlt hch), p2, Ext.ad _ _ hh.Rlt, ?_, rfl, rfl⟩
        rw [b2]
        refine .agg st.nR (ln y) us hl hb (Nat.le_refl _) b6 fun j hj => ?_
        dsimp only
        rw [gt_ad _ _ hh.Rlt, if_neg (by omega), show st.nR + j - st.nR = j by omega, gt_ch, if_pos hj]
        exact b7 j hj
      | false =>
        rw [h12, sel_false] at e
        have h13 : y % 16 = 13 := by
          unfold keep at hk
          rw [h12, sel_false] at hk
          exact beq_t hk
        have e : Option.rec .no (fun q => R3.rec (fun R1 n1 c => sel (Nat.blt n1 4294967296) (.ok (eTup n1 (ln y)) ⟨st.T, st.D, ad R1 n1 c, Nat.add n1 (ln y), s.M, s.nM, s.S, s.nS⟩) .no) q) (cpT s.R (sa y) st.R st.nR (ln y)) = RS.ok x st' := e
        cases hq : cpT s.R (sa y) st.R st.nR (ln y) with
        | none => rw [hq] at e; cases e
        | some q =>
          rw [hq] at e
          obtain ⟨R1, n1, c⟩ := q
          have e : sel (Nat.blt n1 4294967296) (.ok (eTup n1 (ln y)) ⟨st.T, st.D, ad R1 n1 c, Nat.add n1 (ln y), s.M, s.nM, s.S, s.nS⟩) .no = RS.ok x st' := e
          obtain ⟨hb, e⟩ := sel_ok e
          have hb := blt_t hb
          injection e with e1 e2
          intro g' w' v p1 p2 p3 p4
          obtain ⟨s0, n0, vs, b1, b2, b3, b4, b5, b6, b7⟩ := p4.tup_inv h13
          have hln : ln y = n0 := by rw [b1]; unfold ln eTup; show (13 + 16 * n0 + 268435456 * s0) / 16 % 16777216 = n0; omega
          have hsa : sa y = s0 := by rw [b1]; unfold sa eTup; show (13 + 16 * n0 + 268435456 * s0) / 268435456 = s0; omega
          rw [hln, hsa] at hq
          obtain ⟨c1, c2, c3, c4⟩ := cpT_ok (vs := vs) hh.Rlt n0 _ b7 hq
          dsimp only at c1 c2 c3 c4
          subst e1; subst e2
          rw [hln]
          have hex : Ext R1 n1 (ad R1 n1 c) (n1 + n0) := Ext.ad _ _ c1
          refine ⟨g', p1.frame _ _ (ad_lt c1 c3), p2, c2.trans hex, ?_, rfl, rfl⟩
          rw [b2]
          refine .tup n1 n0 vs b3 hb (Nat.le_refl _) b6 fun j hj => ?_
          dsimp only
          rw [gt_ad _ _ c1, if_neg (by omega), show n1 + j - n1 = j by omega]
          exact (c4 j hj).mono (Gh.le.refl _) hex
    | false =>
      rw [hk, sel_false] at e
      have dd : finD y st s = .ok x st' → ∀ {g' : Gh} {w' : World} {v : Value}, HR g' s w' → Fr g w g' w' → Ext st.R st.nR s.R s.nR → TR g' s.R s.nR y v → ∃ g2, Post g st w g2 st' w' x v := fun e => by
        change RS.ok y { s with T := st.T, D := st.D, R := st.R, nR := st.nR } = .ok x st' at e
        injection e with e1 e2
        subst e1; subst e2
        exact fun {g' _ _} p1 p2 p3 p4 => ⟨g', p1.frame _ _ hh.Rlt, p2, Ext.refl _ _, p4.drop _ _ hk, rfl, rfl⟩
      cases hsm : small y with
      | false => rw [hsm, sel_false] at e; exact @dd e
      | true =>
        rw [hsm, sel_true] at e
        change sel (Nat.beq st.nM s.nM) (.ok y { s with T := st.T, D := st.D, R := st.R, nR := st.nR }) (sel (Nat.beq (Nat.land s.M (Nat.sub (Nat.pow 2 (Nat.mul 128 st.nM)) 1)) st.M) (.ok y st) (.ok y { s with T := st.T, D := st.D, R := st.R, nR := st.nR })) = RS.ok x st' at e
        cases h1 : Nat.beq st.nM s.nM with
        | true => rw [h1, sel_true] at e; exact @dd e
        | false =>
          rw [h1, sel_false] at e
          cases h2 : Nat.beq (Nat.land s.M (Nat.sub (Nat.pow 2 (Nat.mul 128 st.nM)) 1)) st.M with
          | false => rw [h2, sel_false] at e; exact @dd e
          | true =>
            rw [h2, sel_true] at e
            injection e with e1 e2
            subst e1; subst e2
            intro g' w' v p1 p2 p3 p4
            obtain ⟨q1, q2⟩ := back_ok hh p1 p2 fun i hi => gt_low (beq_t h2) i hi
            exact ⟨g, q1, q2, Ext.refl _ _, small_tr _ _ _ p4 hsm, rfl, rfl⟩

theorem calls_okG {Rel : Nat → Array Value → World → (Value → World → Prop) → Prop} (hm : MonoR Rel) (hc : CallG Rel K call) (hk : K.In g) (hh : HR g st w) {f n T x : Nat} {st' : St} {args : Array Value} (hn : n = args.size) (hT : ∀ i, TR g st.R st.nR (gt T i) (args.getD i undef)) (hT0 : ∀ i, args.size ≤ i → gt T i = 0)
    (e : calls call f n T st = .ok x st') : Rel f args w fun v w' => ∃ g', Post g st w g' st' w' x v := by
  unfold calls at e
  rw [fc_eq] at e
  obtain ⟨y, s, e1, e2⟩ := fin_ok e hh
  change call f { st with T := T, D := [(n, [])] } = .ok y s at e1
  have h0 : HR g { st with T := T, D := [(n, [])] } w := hh.frame _ _ hh.Rlt
  refine hm _ _ _ _ _ (hc f g { st with T := T, D := [(n, [])] } w args y s hk h0 (by rw [hn]) hT hT0 e1) fun v w' ⟨g', hp⟩ => ?_
  obtain ⟨p1, p2, p3, p4⟩ := hp
  exact e2 p1 p2 p3 p4

theorem calls_ok (hc : CallV P K call) (hk : K.In g) (hh : HR g st w) {f n T x : Nat} {st' : St} {args : Array Value} (hn : n = args.size) (hT : ∀ i, TR g st.R st.nR (gt T i) (args.getD i undef)) (hT0 : ∀ i, args.size ≤ i → gt T i = 0)
    (e : calls call f n T st = .ok x st') : CallR P f args w fun v w' => ∃ g', Post g st w g' st' w' x v := calls_okG (callR_mono P) hc hk hh hn hT hT0 e

theorem args_map {ρ : Operand → Value} {T R nR : Nat} {l : List Operand} (h : ∀ y ∈ l, TR g R nR (rd T (cOp K y)) (ρ y)) : ∀ i, TR g R nR ((rds T (l.map (cOp K))).getD i 0) (((l.map ρ).toArray).getD i undef) := fun i => by
  by_cases hi : i < l.length
  · rw [rds_getD _ _ _ (by simpa using hi)]
    have := h l[i] (List.getElem_mem hi)
    simpa [hi] using this
  · have h1 : (rds T (l.map (cOp K))).getD i 0 = 0 := by
      have : (rds T (l.map (cOp K))).length = l.length := by simp [rds]
      simp [List.getD_eq_getElem?_getD, this, hi]
    rw [h1]; exact .unk _

theorem gt_rowN' {ws : List Nat} (hw : ∀ w ∈ ws, w < 2 ^ 128) (i : Nat) : gt (rowN ws) i = ws.getD i 0 := gt_rowN ws i hw

end
end Ev
end Go.Proofs.YtgdibfnpkcdiiaaGreatDoor
