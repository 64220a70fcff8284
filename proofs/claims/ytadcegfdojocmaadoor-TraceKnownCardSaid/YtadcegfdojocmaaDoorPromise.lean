/- A law for a region that draws its order: each operation leaves in its temporary a value of which a promise holds; a promise asks of the world nothing but what new memory leaves as it was. By an AI agent. -/
import Derived.Orders
import Derived.Below
namespace Go.Proofs.YtadcegfdojocmaaDoor
open Go.RowKit

theorem filter_lt {l : List Nat} {p q : Nat → Bool} (h : ∀ x, q x = true → p x = true) {i : Nat} (hi : i ∈ l) (hp : p i = true) (hq : q i = false) : (l.filter q).length < (l.filter p).length := by
  induction l with
  | nil => simp at hi
  | cons x r ih =>
    have hle : ∀ r : List Nat, (r.filter q).length ≤ (r.filter p).length := by
      intro r
      induction r with
      | nil => simp
      | cons y t ih2 =>
        cases hqy : q y with
        | true => simp [hqy, h y hqy]; omega
        | false => cases hpy : p y <;> simp [hqy, hpy] <;> omega
    by_cases hx : x = i
    · subst hx; simp [hp, hq]; have := hle r; omega
    · have hr : i ∈ r := by
        rcases List.mem_cons.1 hi with e | e
        · exact absurd e.symm hx
        · exact e
      have h1 := ih hr
      cases hqy : q x with
      | true => simp [hqy, h x hqy]; omega
      | false => cases hpy : p x <;> simp [hqy, hpy] <;> omega

/-- The operations that have not come up. -/
def unl (n : Nat) (listed : Array Bool) : List Nat := (List.range n).filter fun j => !listed.getD j true
theorem unl_set {n i : Nat} {listed : Array Bool} (hi : i < n) (h : listed.getD i true = false) : (unl n (listed.setIfInBounds i true)).length < (unl n listed).length := by
  refine filter_lt (fun x hx => ?_) (List.mem_range.2 hi) (by simp [h]) ?_
  · by_cases e : i = x
    · subst e; simp [h]
    · rw [getD_set_ne true e] at hx; exact hx
  · have hlt : i < listed.size := by
      rcases Nat.lt_or_ge i listed.size with h' | h'
      · exact h'
      · simp [Array.getElem?_eq_none h'] at h
    simp [hlt]

section
variable {P : Program} {ops : Array Oper} {Q : Exit → Act → World → Prop}

/-- What holds when some operations have come up. -/
def Kept (d : Nat → Nat) (Pr : Nat → Value → World → Prop) (n : Nat) (a0 : Act) (w0 : World) (listed : Array Bool) (a : Act) (w : World) : Prop :=
  a.defers = a0.defers ∧ a.tmps.size = a0.tmps.size ∧ (∀ t, (∀ j, j < n → d j ≠ t) → a.tmps[t]? = a0.tmps[t]?) ∧ Below w0.heap.size w0 w ∧
  ∀ j, j < n → listed.getD j true = true → ∃ v, a.tmps[d j]? = some v ∧ Pr j v w

theorem wpAny_kept (d : Nat → Nat) (Pr : Nat → Value → World → Prop) (a0 : Act) (w0 : World)
    (hd : ∀ i j, i < ops.size → j < ops.size → d i = d j → i = j) (hds : ∀ i, i < ops.size → d i < a0.tmps.size)
    (hst : ∀ (i : Nat) (v : Value) (w w' : World), i < ops.size → Pr i v w → Below w.heap.size w w' → Pr i v w')
    (haf : ∀ (i : Nat) (o : Oper), ops[i]? = some o → ∀ e ∈ o.after, e.on < i)
    (hg : ∀ (i : Nat) (o : Oper), ops[i]? = some o → o.guard = none)
    (hstep : ∀ (i : Nat) (o : Oper) (a : Act) (w : World), ops[i]? = some o → a.defers = a0.defers → a.tmps.size = a0.tmps.size → (∀ t, (∀ j, j < ops.size → d j ≠ t) → a.tmps[t]? = a0.tmps[t]?) → Below w0.heap.size w0 w →
      (∀ e ∈ o.after, Region.binds .any e = true → ∃ v, a.tmps[d e.on]? = some v ∧ Pr e.on v w) →
      o.wp P a w (fun a' w' => ∃ v, a' = a.put (some (d i)) v ∧ Pr i v w' ∧ Below w.heap.size w w') Q)
    (hfin : ∀ (a : Act) (w : World), a.defers = a0.defers → a.tmps.size = a0.tmps.size → (∀ t, (∀ j, j < ops.size → d j ≠ t) → a.tmps[t]? = a0.tmps[t]?) → Below w0.heap.size w0 w →
      (∀ j, j < ops.size → ∃ v, a.tmps[d j]? = some v ∧ Pr j v w) → Q .normal a w) :
    ∀ (fuel : Nat) (listed : Array Bool) (a : Act) (w : World), listed.size = ops.size → (unl ops.size listed).length ≤ fuel → Kept d Pr ops.size a0 w0 listed a w → wpAny P .any ops Q fuel listed a w := by
  have hall : ∀ (listed : Array Bool), Region.ready .any ops listed = [] → ∀ j, j < ops.size → listed.getD j true = true := by
    intro listed hr j
    induction j using Nat.strongRecOn with
    | ind j ih =>
      intro hj
      cases hl : listed.getD j true with
      | true => rfl
      | false =>
        have hm : j ∈ Region.ready .any ops listed := mem_ready.2 ⟨hl, ops[j], Array.getElem?_eq_getElem hj, fun e he hb => by
          have hlt := haf j ops[j] (Array.getElem?_eq_getElem hj) e he
          have := ih e.on hlt (by omega)
          cases hs : listed[e.on]? with
          | none =>
            have h1 : listed.size ≤ e.on := by
              rcases Nat.lt_or_ge e.on listed.size with h' | h'
              · rw [Array.getElem?_eq_getElem h'] at hs; cases hs
              · exact h'
            have : listed[j]? = none := Array.getElem?_eq_none (by omega)
            simp [this] at hl
          | some b => simpa [hs] using this⟩
        rw [hr] at hm; cases hm
  intro fuel
  induction fuel with
  | zero =>
    intro listed a w hsz hle hk
    have hr : Region.ready .any ops listed = [] := by
      cases hc : Region.ready .any ops listed with
      | nil => rfl
      | cons i r =>
        have hi : i ∈ Region.ready .any ops listed := by rw [hc]; simp
        obtain ⟨h0, o, ho, _⟩ := mem_ready.1 hi
        have := unl_set (Array.getElem?_eq_some_iff.1 ho).1 h0
        omega
    obtain ⟨k1, k2, k3, k4, k5⟩ := hk
    exact ⟨hr, hfin a w k1 k2 k3 k4 (fun j hj => k5 j hj (hall listed hr j hj))⟩
  | succ fuel ih =>
    intro listed a w hsz hle hk
    obtain ⟨k1, k2, k3, k4, k5⟩ := hk
    refine ⟨fun hr => hfin a w k1 k2 k3 k4 (fun j hj => k5 j hj (hall listed hr j hj)), fun i hi => ?_⟩
    obtain ⟨h0, o, ho, haft⟩ := mem_ready.1 hi
    have hil := (Array.getElem?_eq_some_iff.1 ho).1
    have hlt : i < listed.size := by rw [hsz]; exact hil
    unfold wpOp
    rw [ho]
    simp only
    rw [if_pos (by simp [Region.wanted, hg i o ho])]
    refine Or.inl (Oper.wp_mono ?_ (hstep i o a w ho k1 k2 k3 k4 (fun e he hb => k5 e.on (by have := haf i o ho e he; omega) (by
      have := haft e he hb
      cases hs : listed[e.on]? with
      | none => simp [hs] at this
      | some b => simpa [hs] using this))))
    rintro a' w' ⟨v, rfl, hp, hb⟩
    refine ih _ _ _ (by simp [hsz]) (by have := unl_set hil h0; omega) ⟨k1, by simp [Act.put, k2], fun t ht => ?_, k4.trans (hb.mono k4.size), fun j hj hl => ?_⟩
    · have := ht i hil
      simp only [Act.put]
      rw [Array.getElem?_setIfInBounds_ne this]; exact k3 t ht
    · by_cases e : i = j
      · subst e
        exact ⟨v, by simp only [Act.put]; rw [Array.getElem?_setIfInBounds_self_of_lt (by rw [k2]; exact hds i hil)], hp⟩
      · rw [getD_set_ne true e] at hl
        obtain ⟨u, hu, hpu⟩ := k5 j hj hl
        refine ⟨u, ?_, hst j u w w' hj hpu hb⟩
        simp only [Act.put]
        rw [Array.getElem?_setIfInBounds_ne (fun ee => e (hd i j hil hj ee))]; exact hu

theorem wp_region_kept {id : Nat} (d : Nat → Nat) (Pr : Nat → Value → World → Prop) (a0 : Act) (w0 : World) (hm : P.follows .mixedOrders = true)
    (hd : ∀ i j, i < ops.size → j < ops.size → d i = d j → i = j) (hds : ∀ i, i < ops.size → d i < a0.tmps.size)
    (hst : ∀ (i : Nat) (v : Value) (w w' : World), i < ops.size → Pr i v w → Below w.heap.size w w' → Pr i v w')
    (haf : ∀ (i : Nat) (o : Oper), ops[i]? = some o → ∀ e ∈ o.after, e.on < i)
    (hg : ∀ (i : Nat) (o : Oper), ops[i]? = some o → o.guard = none)
    (hstep : ∀ (i : Nat) (o : Oper) (a : Act) (w : World), ops[i]? = some o → a.defers = a0.defers → a.tmps.size = a0.tmps.size → (∀ t, (∀ j, j < ops.size → d j ≠ t) → a.tmps[t]? = a0.tmps[t]?) → Below w0.heap.size w0 w →
      (∀ e ∈ o.after, Region.binds .any e = true → ∃ v, a.tmps[d e.on]? = some v ∧ Pr e.on v w) →
      o.wp P a w (fun a' w' => ∃ v, a' = a.put (some (d i)) v ∧ Pr i v w' ∧ Below w.heap.size w w') Q)
    (hfin : ∀ (a : Act) (w : World), a.defers = a0.defers → a.tmps.size = a0.tmps.size → (∀ t, (∀ j, j < ops.size → d j ≠ t) → a.tmps[t]? = a0.tmps[t]?) → Below w0.heap.size w0 w →
      (∀ j, j < ops.size → ∃ v, a.tmps[d j]? = some v ∧ Pr j v w) → Q .normal a w) :
    (Code.region id ops true).wp P Q a0 w0 := by
  refine wp_region_any hm (wpAny_kept d Pr a0 w0 hd hds hst haf hg hstep hfin ops.size _ _ _ (by simp) ?_ ⟨rfl, rfl, fun _ _ => rfl, ⟨rfl, rfl, rfl, Nat.le_refl _, fun _ _ => rfl⟩, fun j hj hl => ?_⟩)
  · unfold unl; exact Nat.le_trans (List.length_filter_le _ _) (by simp)
  · simp [hj] at hl
end
end Go.Proofs.YtadcegfdojocmaaDoor
