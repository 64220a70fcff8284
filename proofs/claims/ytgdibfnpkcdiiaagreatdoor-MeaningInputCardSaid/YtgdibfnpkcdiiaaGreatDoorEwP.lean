/- What a call leaves, moved together: a call that was reckoned by itself, its new memory told in fewer cells. No condition. -/
import Derived.Test.YtgdibfnpkcdiiaaGreatDoorEwM
namespace Go.Proofs.YtgdibfnpkcdiiaaGreatDoor
open Go.RowKit
namespace Ev

/-- An allocation's new place, its old one, its size. -/
structure Mv where
  d : Nat
  s : Nat
  z : Nat
/-- 0: nowhere; else its new place and 1 more. -/
noncomputable def fnd (s z : Nat) (L : List Mv) : Nat := List.rec 0 (fun m _ ih => Mv.rec (fun d s' z' => sel (Nat.beq s s') (sel (Nat.beq z z') (Nat.succ d) 0) ih) m) L
noncomputable def imm (x : Nat) : Bool := sel (Nat.ble (Nat.mod x 16) 4) true (sel (Nat.beq (Nat.mod x 16) 6) true (sel (Nat.beq (Nat.mod x 16) 9) true (Nat.beq (Nat.mod x 16) 15)))
/-- Does a word say in the new places what another one said in the old ones? -/
noncomputable def okW (L : List Mv) (x y : Nat) : Bool := sel (Nat.beq y 0) true (sel (Nat.beq (Nat.mod x 16) 5) (fc (fnd (ps x) (pz x) L) fun q => sel (Nat.beq q 0) false (Nat.beq y (ePtr (Nat.sub q 1) (pz x) (po x))))
  (sel (Nat.beq (Nat.mod x 16) 7) (fc (fnd (ps x) (pz x) L) fun q => sel (Nat.beq q 0) false (Nat.beq y (eSli (Nat.sub q 1) (pz x) (sl x) (se x) (so x)))) (sel (imm x) (Nat.beq x y) false)))
/-- So many words from a place on, and from another one on. -/
noncomputable def okC (L : List Mv) (M M2 s d : Nat) : Nat → Bool := fun k => Nat.rec true (fun k ih => sel (okW L (gt M (Nat.add s k)) (gt M2 (Nat.add d k))) ih false) k
noncomputable def okL (L0 : List Mv) (M M2 : Nat) (L : List Mv) : Bool := List.rec true (fun m _ ih => Mv.rec (fun d s z => sel (okC L0 M M2 s d z) ih false) m) L
noncomputable def lay (L : List Mv) : Nat → Nat → Nat → Bool := List.rec (fun n _ e => Nat.ble n e) (fun m _ ih n k e => Mv.rec (fun d s z => sel (Nat.ble n d) (sel (Nat.ble k s) (ih (Nat.succ (Nat.add d z)) (Nat.succ s) e) false) false) m) L
/-- A row of cells. -/
noncomputable def okA (L : List Mv) (R R2 n x y : Nat) : Bool := sel (Nat.beq (Nat.mod y 16) 12) (sel (Nat.beq (ln x) (ln y)) (sel (Nat.ble (Nat.add (sa y) (ln y)) n) (sel (Nat.blt (sa y) 4294967296) (okC L R R2 (sa x) (sa y) (ln x)) false) false) false) false
noncomputable def okE (L : List Mv) (R R2 n x y : Nat) : Bool := sel (Nat.beq (Nat.mod x 16) 12) (okA L R R2 n x y) (sel (Nat.beq (Nat.mod x 16) 13) false (sel (Nat.beq x 14) (Nat.beq y 14) (okW L x y)))
noncomputable def okEs (L : List Mv) (R R2 n s d : Nat) : Nat → Bool := fun k => Nat.rec true (fun k ih => sel (okE L R R2 n (gt R (Nat.add s k)) (gt R2 (Nat.add d k))) ih false) k
noncomputable def okT (L : List Mv) (R R2 n x y : Nat) : Bool := sel (Nat.beq (Nat.mod x 16) 13) (sel (Nat.beq (Nat.mod y 16) 13) (sel (Nat.beq (ln x) (ln y)) (sel (Nat.ble (Nat.add (sa y) (ln y)) n) (sel (Nat.blt (sa y) 4294967296) (okEs L R R2 n (sa x) (sa y) (ln x)) false) false) false) false)
  (okE L R R2 n x y)

theorem sel_else {b c : Bool} (h : sel b true c = true) : b = true ∨ c = true := by
  cases b with
  | true => exact .inl rfl
  | false => exact .inr h

/-- The new table. -/
def mvI (g' : Gh) (s z : Nat) : Info := match g'.rho s with
  | .cells b ba z' r => if z' = z then .cells b ba z r else .free
  | _ => .free
def mvR (g' : Gh) (d : Nat) : List Mv → Info
  | [] => .free
  | m :: L => if d = m.d then mvI g' m.s m.z else mvR g' d L
def Gh.mv (g g' : Gh) (n : Nat) (L : List Mv) : Gh := ⟨fun d => if d < n then g.rho d else mvR g' d L, g'.S, g'.nS, g'.rh⟩

theorem lay_nil {n k e : Nat} (h : lay [] n k e = true) : n ≤ e := ble_t h
theorem lay_cons {m : Mv} {L : List Mv} {n k e : Nat} (h : lay (m :: L) n k e = true) : n ≤ m.d ∧ k ≤ m.s ∧ lay L (m.d + m.z + 1) (m.s + 1) e = true := by
  obtain ⟨d, s, z⟩ := m
  have h : sel (Nat.ble n d) (sel (Nat.ble k s) (lay L (Nat.succ (Nat.add d z)) (Nat.succ s) e) false) false = true := h
  obtain ⟨h1, h⟩ := sel_t h
  obtain ⟨h2, h⟩ := sel_t h
  exact ⟨ble_t h1, ble_t h2, h⟩
theorem lay_le : ∀ {L : List Mv} {n k e : Nat}, lay L n k e = true → n ≤ e
  | [], _, _, _, h => lay_nil h
  | m :: L, n, k, e, h => by
    obtain ⟨h1, _, h3⟩ := lay_cons h
    have := lay_le h3
    omega

theorem mvI_cells {g' : Gh} {s z : Nat} (h : mvI g' s z ≠ .free) : ∃ b ba r, g'.rho s = .cells b ba z r ∧ mvI g' s z = .cells b ba z r := by
  unfold mvI at h ⊢
  cases hr : g'.rho s with
  | cells b ba z' r =>
    rw [hr] at h
    dsimp only at h ⊢
    by_cases hz : z' = z
    · subst hz; exact ⟨b, ba, r, rfl, by rw [if_pos rfl]⟩
    · rw [if_neg hz] at h; exact absurd rfl h
  | _ => rw [hr] at h; exact absurd rfl h

/-- What is at a new place. -/
theorem mvR_spec {g' : Gh} : ∀ {L : List Mv} {n k e d : Nat}, lay L n k e = true → mvR g' d L ≠ .free → ∃ m ∈ L, d = m.d ∧ n ≤ d ∧ d + m.z < e ∧ k ≤ m.s ∧ mvR g' d L = mvI g' m.s m.z
  | [], _, _, _, _, _, h => absurd rfl h
  | m :: L, n, k, e, d, hl, h => by
    obtain ⟨h1, h2, h3⟩ := lay_cons hl
    have h4 := lay_le h3
    unfold mvR at h ⊢
    by_cases hd : d = m.d
    · rw [if_pos hd]
      exact ⟨m, by simp, hd, by omega, by omega, h2, rfl⟩
    · rw [if_neg hd] at h ⊢
      obtain ⟨q, q1, q2, q3, q4, q5, q6⟩ := mvR_spec h3 h
      exact ⟨q, by simp [q1], q2, by omega, q4, by omega, q6⟩
theorem mvR_at {g' : Gh} : ∀ {L : List Mv} {n k e : Nat} {m : Mv}, lay L n k e = true → m ∈ L → mvR g' m.d L = mvI g' m.s m.z ∧ n ≤ m.d ∧ m.d + m.z < e ∧ k ≤ m.s
  | m0 :: L, n, k, e, m, hl, hm => by
    obtain ⟨h1, h2, h3⟩ := lay_cons hl
    have h4 := lay_le h3
    unfold mvR
    rcases List.mem_cons.1 hm with rfl | hm
    · rw [if_pos rfl]; exact ⟨rfl, by omega, by omega, h2⟩
    · obtain ⟨q1, q2, q3, q4⟩ := mvR_at (g' := g') h3 hm
      rw [if_neg (by omega)]
      exact ⟨q1, by omega, q3, by omega⟩
/-- Two of them are apart. -/
theorem lay_apart : ∀ {L : List Mv} {n k e : Nat} {a b : Mv}, lay L n k e = true → a ∈ L → b ∈ L → (a.d < b.d → a.d + a.z < b.d) ∧ (a.d ≠ b.d → a.s ≠ b.s)
  | m :: L, n, k, e, a, b, hl, ha, hb => by
    obtain ⟨h1, h2, h3⟩ := lay_cons hl
    rcases List.mem_cons.1 ha with ha2 | ha2
    · rcases List.mem_cons.1 hb with hb2 | hb2
      · subst ha2; subst hb2; exact ⟨fun h => absurd h (by omega), fun h => absurd rfl h⟩
      · obtain ⟨_, q2, _, q4⟩ := mvR_at (g' := ⟨fun _ => .free, 0, 0, fun _ => undef⟩) h3 hb2
        subst ha2
        exact ⟨fun _ => by omega, fun _ => by omega⟩
    · rcases List.mem_cons.1 hb with hb2 | hb2
      · obtain ⟨_, q2, _, q4⟩ := mvR_at (g' := ⟨fun _ => .free, 0, 0, fun _ => undef⟩) h3 ha2
        subst hb2
        exact ⟨fun h => by omega, fun _ => by omega⟩
      · exact lay_apart h3 ha2 hb2
theorem fnd_mem {s z : Nat} : ∀ {L : List Mv} {q : Nat}, fnd s z L = q → q ≠ 0 → ∃ m ∈ L, m.s = s ∧ m.z = z ∧ q = m.d + 1
  | [], q, h, h0 => absurd h.symm h0
  | m :: L, q, h, h0 => by
    obtain ⟨d, s', z'⟩ := m
    have h : sel (Nat.beq s s') (sel (Nat.beq z z') (Nat.succ d) 0) (fnd s z L) = q := h
    cases h1 : Nat.beq s s' with
    | true =>
      rw [h1, sel_true] at h
      cases h2 : Nat.beq z z' with
      | true => rw [h2, sel_true] at h; exact ⟨⟨d, s', z'⟩, by simp, (beq_t h1).symm, (beq_t h2).symm, h.symm⟩
      | false => rw [h2, sel_false] at h; exact absurd h.symm h0
    | false =>
      rw [h1, sel_false] at h
      obtain ⟨m, k1, k2, k3, k4⟩ := fnd_mem h h0
      exact ⟨m, by simp [k1], k2, k3, k4⟩
theorem okL_mem {L0 : List Mv} {M M2 : Nat} : ∀ {L : List Mv}, okL L0 M M2 L = true → ∀ m ∈ L, okC L0 M M2 m.s m.d m.z = true
  | m0 :: L, h, m, hm => by
    obtain ⟨d, s, z⟩ := m0
    have h : sel (okC L0 M M2 s d z) (okL L0 M M2 L) false = true := h
    obtain ⟨h1, h2⟩ := sel_t h
    rcases List.mem_cons.1 hm with rfl | hm
    · exact h1
    · exact okL_mem h2 m hm
theorem okC_at {L : List Mv} {M M2 s d : Nat} : ∀ {k : Nat}, okC L M M2 s d k = true → ∀ i, i < k → okW L (gt M (s + i)) (gt M2 (d + i)) = true
  | k + 1, h, i, hi => by
    have h : sel (okW L (gt M (s + k)) (gt M2 (d + k))) (okC L M M2 s d k) false = true := h
    obtain ⟨h1, h2⟩ := sel_t h
    by_cases hk : i = k
    · subst hk; exact h1
    · exact okC_at h2 i (by omega)

theorem slip {s z l e o : Nat} (h1 : s < 16777216) (h2 : z < 16777216) (h3 : l < 16777216) (h4 : e < 256) : ps (eSli s z l e o) = s ∧ pz (eSli s z l e o) = z ∧ sl (eSli s z l e o) = l ∧ se (eSli s z l e o) = e ∧ so (eSli s z l e o) = o := by
  refine ⟨?_, ?_, ?_, ?_, ?_⟩
  · show eSli s z l e o / 16 % 16777216 = s; unfold eSli; omega
  · show eSli s z l e o / 268435456 % 16777216 = z; unfold eSli; omega
  · show eSli s z l e o / 4503599627370496 % 16777216 = l; unfold eSli; omega
  · show eSli s z l e o / 75557863725914323419136 % 256 = e; unfold eSli; omega
  · show eSli s z l e o / 19342813113834066795298816 = o; unfold eSli; omega
theorem ptrp {s z o : Nat} (h1 : s < 16777216) (h2 : z < 16777216) : ps (ePtr s z o) = s ∧ pz (ePtr s z o) = z ∧ po (ePtr s z o) = o := by
  refine ⟨?_, ?_, ?_⟩
  · show ePtr s z o / 16 % 16777216 = s; unfold ePtr; omega
  · show ePtr s z o / 268435456 % 16777216 = z; unfold ePtr; omega
  · show ePtr s z o / 4503599627370496 = o; unfold ePtr; omega

theorem imm_or {x : Nat} (h : imm x = true) : x % 16 ≤ 4 ∨ x % 16 = 6 ∨ x % 16 = 9 ∨ x % 16 = 15 := by
  rcases sel_else h with h | h
  · exact .inl (ble_t h)
  · rcases sel_else h with h | h
    · exact .inr (.inl (beq_t h))
    · rcases sel_else h with h | h
      · exact .inr (.inr (.inl (beq_t h)))
      · exact .inr (.inr (.inr (beq_t h)))

section
variable {g g' : Gh} {n e : Nat} {L : List Mv}

/-- A word's meaning moves. -/
theorem okW_vr (hl : lay L n n e = true) (he : e ≤ 16777216) {x y : Nat} {v : Value} (hv : VR g' x v) (h : okW L x y = true) : VR (g.mv g' n L) y v := by
  unfold okW at h
  rcases sel_else h with h | h
  · rw [beq_t h]; exact .unk _ hv.one
  · have rho : ∀ m ∈ L, ∀ {blk base room}, g'.rho m.s = .cells blk base m.z room → (g.mv g' n L).rho m.d = .cells blk base m.z room ∧ m.d < 16777216 := fun m hm {blk base room} hr => by
      obtain ⟨q1, q2, q3, _⟩ := mvR_at (g' := g') hl hm
      refine ⟨?_, by omega⟩
      show (if m.d < n then g.rho m.d else mvR g' m.d L) = _
      rw [if_neg (by omega), q1]
      unfold mvI
      rw [hr]
      exact if_pos rfl
    cases h5 : Nat.beq (Nat.mod x 16) 5 with
    | true =>
      rw [h5, sel_true] at h
      have h5 : x % 16 = 5 := beq_t h5
      obtain ⟨s, z, o, blk, base, room, e1, e2, e3, e4, e5, e6⟩ := hv.ptr_inv h5
      obtain ⟨p1, p2, p3⟩ := ptrp (o := o) e3 e4
      rw [e1, p1, p2, p3] at h
      have h : sel (Nat.beq (fnd s z L) 0) false (Nat.beq y (ePtr (Nat.sub (fnd s z L) 1) z o)) = true := h
      cases hq : Nat.beq (fnd s z L) 0 with
      | true => rw [hq] at h; cases h
      | false =>
        rw [hq, sel_false] at h
        obtain ⟨m, m1, m2, m3, m4⟩ := fnd_mem rfl (beq_f hq)
        subst m2; subst m3
        obtain ⟨r1, r2⟩ := rho m m1 e5
        rw [beq_t h, m4, show Nat.sub (m.d + 1) 1 = m.d from rfl, e2]
        exact .ptr m.d m.z o blk base room r2 e4 r1 e6
    | false =>
      rw [h5, sel_false] at h
      cases h7 : Nat.beq (Nat.mod x 16) 7 with
      | true =>
        rw [h7, sel_true] at h
        have h7 : x % 16 = 7 := beq_t h7
        obtain ⟨s, z, l, w, o, blk, base, room, cap, a, e1, e2, e3, e4, e5, e6, e7, e8, e9, e10⟩ := hv.sli_inv h7
        obtain ⟨p1, p2, p3, p4, p5⟩ := slip (o := o) e3 e4 e5 e6
        rw [e1, p1, p2, p3, p4, p5] at h
        have h : sel (Nat.beq (fnd s z L) 0) false (Nat.beq y (eSli (Nat.sub (fnd s z L) 1) z l w o)) = true := h
        cases hq : Nat.beq (fnd s z L) 0 with
        | true => rw [hq] at h; cases h
        | false =>
          rw [hq, sel_false] at h
          obtain ⟨m, m1, m2, m3, m4⟩ := fnd_mem rfl (beq_f hq)
          subst m2; subst m3
          obtain ⟨r1, r2⟩ := rho m m1 e7
          rw [beq_t h, m4, show Nat.sub (m.d + 1) 1 = m.d from rfl, e2]
          exact .sli m.d m.z l w o blk base room cap a r2 e4 e5 e6 r1 e8 e9 e10
      | false =>
        rw [h7, sel_false] at h
        obtain ⟨hi, hxy⟩ := sel_t h
        have hxy := beq_t hxy
        subst hxy
        have hi := imm_or hi
        cases hv with
        | unk v h => exact .unk v h
        | sym j hj ho => exact VR.sym (g := g.mv g' n L) j hj ho
        | bool b => exact .bool b
        | int k n h1 h2 => exact .int k n h1 h2
        | str st l h1 h2 h3 => exact VR.str (g := g.mv g' n L) st l h1 h2 h3
        | pnil => exact .pnil
        | snil => exact .snil
        | semp a => exact .semp a
        | mnil => exact .mnil
        | fnil => exact .fnil
        | inil => exact .inil
        | fn0 f hf => exact .fn0 f hf
        | ptr s z o => exfalso; unfold ePtr at hi; omega
        | sli s z l e o => exfalso; unfold eSli at hi; omega
        | map s => exfalso; unfold eMap at hi; omega
        | func f m n s => exfalso; unfold eFun at hi; omega
        | ifc t s => exfalso; unfold eIfc at hi; omega
theorem okW_zero {x y : Nat} (h : okW L x y = true) (hy : y ≠ 0) : x ≠ 0 := by
  intro hx
  subst hx
  unfold okW at h
  rcases sel_else h with h | h
  · exact hy (beq_t h)
  · have h : Nat.beq 0 y = true := h
    exact hy (beq_t h).symm

theorem moved {st s : St} {w w' : World} {M2 : Nat} (h : HR g st w) (k : HR g' s w') (f : Fr g w g' w') (hag : ∀ i, i < st.nM → gt s.M i = gt st.M i) (hM2 : M2 < 2 ^ (128 * e)) (hold : ∀ i, i < st.nM → gt M2 i = gt st.M i)
    (hn : n = st.nM) (hl : lay L n n e = true) (he : e ≤ 16777216) (hc : okL L s.M M2 L = true) (T : Nat) (D : List (Nat × List Nat)) {R nR : Nat} (hR : R < 2 ^ (128 * nR)) :
    HR (g.mv g' n L) ⟨T, D, R, nR, M2, e, s.S, s.nS⟩ w' ∧ Fr g w (g.mv g' n L) w' := by
  subst hn
  have hne := lay_le hl
  have rlow : ∀ d, d < st.nM → (g.mv g' st.nM L).rho d = g.rho d := fun d hd => if_pos hd
  have rhigh : ∀ d, ¬ d < st.nM → (g.mv g' st.nM L).rho d = mvR g' d L := fun d hd => if_neg hd
  have hlow : ∀ d, g.rho d ≠ .free → d + (g.rho d).size < st.nM := h.top
  have hle : g.le (g.mv g' st.nM L) := ⟨fun d hd => rlow d (by have := hlow d hd; omega), f.le.nS, f.le.byte, f.le.rh⟩
  -- what a table entry is
  have ent : ∀ d, (g.mv g' st.nM L).rho d ≠ .free → (d < st.nM ∧ (g.mv g' st.nM L).rho d = g.rho d ∧ g.rho d ≠ .free ∧ d + (g.rho d).size < st.nM) ∨
      ∃ m ∈ L, d = m.d ∧ st.nM ≤ d ∧ d + m.z < e ∧ st.nM ≤ m.s ∧ ∃ b ba r, g'.rho m.s = .cells b ba m.z r ∧ (g.mv g' st.nM L).rho d = .cells b ba m.z r := fun d hd => by
    by_cases hlt : d < st.nM
    · rw [rlow d hlt] at hd
      exact .inl ⟨hlt, rlow d hlt, hd, hlow d hd⟩
    · rw [rhigh d hlt] at hd
      obtain ⟨m, m1, m2, m3, m4, m5, m6⟩ := mvR_spec hl hd
      rw [m6] at hd
      obtain ⟨b, ba, r, c1, c2⟩ := mvI_cells hd
      exact .inr ⟨m, m1, m2, m3, m4, m5, b, ba, r, c1, by rw [rhigh d hlt, m6, c2]⟩
  have live1 : ∀ d z, d + z < st.nM → (Live M2 d z ↔ Live st.M d z) := fun d z hd => by
    constructor <;> rintro ⟨o, ho, hq⟩ <;> refine ⟨o, ho, ?_⟩
    · rw [← hold _ (by omega)]; exact hq
    · rw [hold _ (by omega)]; exact hq
  have live2 : ∀ d z, d + z < st.nM → (Live st.M d z ↔ Live s.M d z) := fun d z hd => by
    constructor <;> rintro ⟨o, ho, hq⟩ <;> refine ⟨o, ho, ?_⟩
    · rw [hag _ (by omega)]; exact hq
    · rw [← hag _ (by omega)]; exact hq
  have live3 : ∀ m ∈ L, Live M2 m.d m.z → Live s.M m.s m.z := fun m hm ⟨o, ho, hq⟩ => ⟨o, ho, okW_zero (okC_at (okL_mem hc m hm) o ho) hq⟩
  refine ⟨⟨k.S, k.nS, k.Slt, hM2, hR, fun d hd => ?_, fun d d' hlt hd hd' => ?_, fun d blk base z room hr => ?_, fun d ws hr i hi => ?_, fun d blk hr => ?_, fun d d' blk base z room base' z' room' hne' hr hr' hl1 hl2 => ?_, fun d d' blk hr hr' => ?_⟩,
    ⟨f.os, f.tape, f.output, f.size, hle, f.keep, fun b hb ho => ?_⟩⟩
  · -- top
    rcases ent d hd with ⟨a1, a2, a3, a4⟩ | ⟨m, m1, m2, m3, m4, m5, b, ba, r, c1, c2⟩
    · rw [a2]; show d + _ < e; omega
    · rw [c2]; exact m4
  · -- disj
    rcases ent d hd with ⟨a1, a2, a3, a4⟩ | ⟨m, m1, m2, m3, m4, m5, b, ba, r, c1, c2⟩
    · rw [a2]
      rcases ent d' hd' with ⟨b1, b2, b3, b4⟩ | ⟨m', m1', m2', m3', m4', _, _⟩
      · exact h.disj d d' hlt a3 b3
      · omega
    · rw [c2]
      show d + m.z < d'
      rcases ent d' hd' with ⟨b1, b2, b3, b4⟩ | ⟨m', m1', m2', m3', m4', _, _⟩
      · omega
      · have := (lay_apart hl m1 m1').1 (by omega)
        omega
  · -- cells
    rcases ent d (by rw [hr]; simp) with ⟨a1, a2, a3, a4⟩ | ⟨m, m1, m2, m3, m4, m5, b, ba, r, c1, c2⟩
    · rw [a2] at hr
      obtain ⟨c, el, fr, hcc⟩ := k.cells d blk base z room (by rw [f.le.rho d a3, hr])
      obtain ⟨c0, e0, fr0, hc0⟩ := h.cells d blk base z room hr
      rw [hr] at a4
      have a4 : d + z < st.nM := a4
      refine ⟨c, el, fr, hcc.heap, hcc.size, hcc.room, hcc.one, fun o ho => ?_, fun hlv => hcc.thaw ((live2 d z a4).1 ((live1 d z a4).1 hlv))⟩
      show VR _ (gt M2 (d + o)) _
      rw [hold _ (by omega)]
      have := hcc.vr o ho
      rw [hag _ (by omega)] at this
      exact ((hc0.vr o ho).back f.le this).mono hle
    · rw [c2] at hr
      injection hr with r1 r2 r3 r4
      subst r1; subst r2; subst r3; subst r4
      obtain ⟨c, el, fr, hcc⟩ := k.cells m.s b ba m.z r c1
      subst m2
      exact ⟨c, el, fr, hcc.heap, hcc.size, hcc.room, hcc.one, fun o ho => okW_vr hl he (hcc.vr o ho) (okC_at (okL_mem hc m m1) o ho), fun hlv => hcc.thaw (live3 m m1 hlv)⟩
  · -- rows
    rcases ent d (by rw [hr]; simp) with ⟨a1, a2, a3, a4⟩ | ⟨m, m1, m2, m3, m4, m5, b, ba, r, c1, c2⟩
    · rw [a2] at hr
      rw [hr] at a4
      have a4 : d + ws.length < st.nM := a4
      show gt M2 (d + i) = _
      rw [hold _ (by omega)]
      exact h.rows d ws hr i hi
    · rw [c2] at hr; cases hr
  · -- maps
    rcases ent d (by rw [hr]; simp) with ⟨a1, a2, a3, a4⟩ | ⟨m, m1, m2, m3, m4, m5, b, ba, r, c1, c2⟩
    · rw [a2] at hr
      obtain ⟨o, ho, hm⟩ := k.maps d blk (by rw [f.le.rho d a3, hr])
      obtain ⟨o0, _, hm0⟩ := h.maps d blk hr
      rw [hag d a1] at hm
      refine ⟨o, ho, ?_⟩
      show MapR _ (gt M2 d) o
      rw [hold d a1]
      exact (hm.back f.le hm0).mono hle
    · rw [c2] at hr; cases hr
  · -- inj
    rcases ent d (by rw [hr]; simp) with ⟨a1, a2, a3, a4⟩ | ⟨m, m1, m2, m3, m4, m5, b, ba, r, c1, c2⟩
    · rw [a2] at hr
      rw [hr] at a4
      have a4 : d + z < st.nM := a4
      have l1 := (live1 d z a4).1 hl1
      rcases ent d' (by rw [hr']; simp) with ⟨b1, b2, b3, b4⟩ | ⟨m', m1', m2', m3', m4', m5', b', ba', r', c1', c2'⟩
      · rw [b2] at hr'
        rw [hr'] at b4
        have b4 : d' + z' < st.nM := b4
        exact h.inj d d' blk base z room base' z' room' hne' hr hr' l1 ((live1 d' z' b4).1 hl2)
      · rw [c2'] at hr'
        injection hr' with r1 r2 r3 r4
        subst r1; subst r2; subst r3; subst r4
        subst m2'
        exact k.inj d m'.s b' base z room ba' m'.z r' (by omega) (by rw [f.le.rho d a3, hr]) c1' ((live2 d z a4).1 l1) (live3 m' m1' hl2)
    · rw [c2] at hr
      injection hr with r1 r2 r3 r4
      subst r1; subst r2; subst r3; subst r4
      subst m2
      rcases ent d' (by rw [hr']; simp) with ⟨b1, b2, b3, b4⟩ | ⟨m', m1', m2', m3', m4', m5', b', ba', r', c1', c2'⟩
      · rw [b2] at hr'
        rw [hr'] at b4
        have b4 : d' + z' < st.nM := b4
        exact k.inj m.s d' b ba m.z r base' z' room' (by omega) c1 (by rw [f.le.rho d' b3, hr']) (live3 m m1 hl1) ((live2 d' z' b4).1 ((live1 d' z' b4).1 hl2))
      · rw [c2'] at hr'
        injection hr' with r1 r2 r3 r4
        subst r1; subst r2; subst r3; subst r4
        subst m2'
        exact k.inj m.s m'.s b' ba m.z r ba' m'.z r' ((lay_apart hl m1 m1').2 hne') c1 c1' (live3 m m1 hl1) (live3 m' m1' hl2)
  · -- minj
    rcases ent d (by rw [hr]; simp) with ⟨a1, a2, a3, a4⟩ | ⟨m, m1, m2, m3, m4, m5, b, ba, r, c1, c2⟩
    · rcases ent d' (by rw [hr']; simp) with ⟨b1, b2, b3, b4⟩ | ⟨m', m1', m2', m3', m4', m5', b', ba', r', c1', c2'⟩
      · exact h.minj d d' blk (by rw [← a2]; exact hr) (by rw [← b2]; exact hr')
      · rw [c2'] at hr'; cases hr'
    · rw [c2] at hr; cases hr
  · -- own
    rcases ho with ⟨d, base, z, room, hr⟩ | ⟨d, hr⟩
    · rcases ent d (by rw [hr]; simp) with ⟨a1, a2, a3, a4⟩ | ⟨m, m1, m2, m3, m4, m5, b', ba', r', c1, c2⟩
      · rw [a2] at hr; exact .inl ⟨d, base, z, room, hr⟩
      · rw [c2] at hr
        injection hr with r1 r2 r3 r4
        subst r1
        exact f.own b' hb (.inl ⟨m.s, ba', m.z, r', c1⟩)
    · rcases ent d (by rw [hr]; simp) with ⟨a1, a2, a3, a4⟩ | ⟨m, m1, m2, m3, m4, m5, b', ba', r', c1, c2⟩
      · rw [a2] at hr; exact .inr ⟨d, hr⟩
      · rw [c2] at hr; cases hr

theorem okE_tr (hl : lay L n n e = true) (he : e ≤ 16777216) {R nR R2 nR2 x y : Nat} {v : Value} (hv : TR g' R nR x v) (h : okE L R R2 nR2 x y = true) : TR (g.mv g' n L) R2 nR2 y v := by
  unfold okE at h
  cases h12 : Nat.beq (Nat.mod x 16) 12 with
  | true =>
    rw [h12, sel_true] at h
    obtain ⟨us, b1, b2, b3, b4, b5, b6, b7⟩ := hv.agg' (beq_t h12)
    unfold okA at h
    obtain ⟨h1, h⟩ := sel_t h
    obtain ⟨h2, h⟩ := sel_t h
    obtain ⟨h3, h⟩ := sel_t h
    obtain ⟨h4, h⟩ := sel_t h
    have h1 : y % 16 = 12 := beq_t h1
    have h2 : ln x = ln y := beq_t h2
    have h3 : sa y + ln y ≤ nR2 := ble_t h3
    have h4 := blt_t h4
    have hy : y = eAgg (sa y) (ln y) := by
      unfold eAgg sa ln
      show y = 12 + 16 * (y / 16 % 16777216) + 268435456 * (y / 268435456)
      omega
    have hln : ln x < 16777216 := by assumption
    rw [b2, hy]
    refine .agg _ _ us (by omega) h4 h3 (by omega) fun i hi => okW_vr hl he (b7 i (by omega)) (okC_at h i (by omega))
  | false =>
    rw [h12, sel_false] at h
    cases h13 : Nat.beq (Nat.mod x 16) 13 with
    | true => rw [h13, sel_true] at h; cases h
    | false =>
      rw [h13, sel_false] at h
      cases h14 : Nat.beq x 14 with
      | true =>
        rw [h14, sel_true] at h
        rw [beq_t h14] at hv
        rw [beq_t h, und_inv hv rfl]; exact .und
      | false =>
        rw [h14, sel_false] at h
        by_cases hx : x = 0
        · have : y = 0 := by
            by_cases hy : y = 0
            · exact hy
            · exact absurd hx (okW_zero h hy)
          rw [this]; exact .unk _
        · refine .cell _ _ (okW_vr hl he ?_ h)
          cases hv with
          | unk => exact absurd rfl hx
          | und => cases h14
          | cell _ _ hv => exact hv
          | agg s m =>
            exfalso
            refine beq_f h12 ?_
            show (eAgg s m) % 16 = 12
            unfold eAgg; omega
          | tup s m =>
            exfalso
            refine beq_f h13 ?_
            show (eTup s m) % 16 = 13
            unfold eTup; omega
theorem okEs_at {R nR2 R2 s d : Nat} : ∀ {k : Nat}, okEs L R R2 nR2 s d k = true → ∀ i, i < k → okE L R R2 nR2 (gt R (s + i)) (gt R2 (d + i)) = true
  | k + 1, h, i, hi => by
    have h : sel (okE L R R2 nR2 (gt R (s + k)) (gt R2 (d + k))) (okEs L R R2 nR2 s d k) false = true := h
    obtain ⟨h1, h2⟩ := sel_t h
    by_cases hk : i = k
    · subst hk; exact h1
    · exact okEs_at h2 i (by omega)
theorem okT_tr (hl : lay L n n e = true) (he : e ≤ 16777216) {R nR R2 nR2 x y : Nat} {v : Value} (hv : TR g' R nR x v) (h : okT L R R2 nR2 x y = true) : TR (g.mv g' n L) R2 nR2 y v := by
  unfold okT at h
  cases h13 : Nat.beq (Nat.mod x 16) 13 with
  | false => rw [h13, sel_false] at h; exact okE_tr hl he hv h
  | true =>
    rw [h13, sel_true] at h
    have h13 : x % 16 = 13 := beq_t h13
    obtain ⟨s0, n0, vs, b1, b2, b3, b4, b5, b6, b7⟩ := hv.tup_inv h13
    obtain ⟨h1, h⟩ := sel_t h
    obtain ⟨h2, h⟩ := sel_t h
    obtain ⟨h3, h⟩ := sel_t h
    obtain ⟨h4, h⟩ := sel_t h
    have h1 : y % 16 = 13 := beq_t h1
    have h2 : ln x = ln y := beq_t h2
    have h3 : sa y + ln y ≤ nR2 := ble_t h3
    have h4 := blt_t h4
    have hln : ln x = n0 := by rw [b1]; unfold ln eTup; show (13 + 16 * n0 + 268435456 * s0) / 16 % 16777216 = n0; omega
    have hsa : sa x = s0 := by rw [b1]; unfold sa eTup; show (13 + 16 * n0 + 268435456 * s0) / 268435456 = s0; omega
    have hy : y = eTup (sa y) (ln y) := by
      unfold eTup sa ln
      show y = 13 + 16 * (y / 16 % 16777216) + 268435456 * (y / 268435456)
      omega
    rw [b2, hy]
    refine .tup _ _ vs (by omega) h4 h3 (by omega) fun i hi => okE_tr hl he (b7 i (by omega)) ?_
    rw [← hsa]
    exact okEs_at h i (by omega)
end

/-- Does a call answer so, but for places? -/
noncomputable def okMv (L : List Mv) (M nM R nR : Nat) (y R2 nR2 M2 nM2 S2 nS2 : Nat) (r : RS) : Bool := RS.rec false (fun x s => sel (Nat.beq (Nat.land s.M (Nat.sub (Nat.pow 2 (Nat.mul 128 nM)) 1)) M) (sel (Nat.beq (Nat.land M2 (Nat.sub (Nat.pow 2 (Nat.mul 128 nM)) 1)) M)
  (sel (Nat.beq (Nat.land R2 (Nat.sub (Nat.pow 2 (Nat.mul 128 nR)) 1)) R) (sel (Nat.blt M2 (Nat.pow 2 (Nat.mul 128 nM2))) (sel (Nat.blt R2 (Nat.pow 2 (Nat.mul 128 nR2))) (sel (Nat.ble nM2 16777216) (sel (Nat.ble nR nR2) (sel (Nat.beq s.S S2) (sel (Nat.beq s.nS nS2)
    (sel (lay L nM nM nM2) (sel (okL L s.M M2 L) (okT L s.R R2 nR2 x y) false) false) false) false) false) false) false) false) false) false) false) r

section
variable {P : Program} {K : Kon} {X : Nat → Nat → Option Plan} {hk : Nat → Option (St → RS)} {dk : Nat → Bool} {fuel : Nat}
theorem hook_mv (hX : ∀ f fn c, P.funcs[f]? = some fn → fn.body = some c → okX P K (X f) fn.ntmps c = true) (hm : P.follows .mixedOrders = true) (hH : ∀ f h, hk f = some h → HookV P K f h) (hd : DkV P dk) {N f T n R nR M nM S nS : Nat} {L : List Mv} {y R2 nR2 M2 nM2 S2 nS2 : Nat}
    (r : okMv L M nM R nR y R2 nR2 M2 nM2 S2 nS2 (evalF P K X hk dk fuel N f ⟨T, [(n, [])], R, nR, M, nM, S, nS⟩) = true) :
    HookV P K f fun st => sel (stB' T n R nR M nM S nS st) (.ok y ⟨T, [(n, [])], R2, nR2, M2, nM2, S2, nS2⟩) .no := fun g st w args x st' hK hh hD hs h0 e => by
  dsimp only at e
  cases hb : stB' T n R nR M nM S nS st with
  | false => rw [hb] at e; cases e
  | true =>
    rw [hb] at e
    change RS.ok y _ = RS.ok x st' at e
    injection e with e1 e2
    subst e1; subst e2
    have hst := stB'_ok hD hb
    cases hr : evalF P K X hk dk fuel N f ⟨T, [(n, [])], R, nR, M, nM, S, nS⟩ with
    | no => rw [hr] at r; cases r
    | ok z s =>
      rw [hr] at r
      obtain ⟨r1, r⟩ := sel_t (show sel _ _ false = true from r)
      obtain ⟨r2, r⟩ := sel_t r
      obtain ⟨r3, r⟩ := sel_t r
      obtain ⟨r4, r⟩ := sel_t r
      obtain ⟨r5, r⟩ := sel_t r
      obtain ⟨r6, r⟩ := sel_t r
      obtain ⟨r7, r⟩ := sel_t r
      obtain ⟨r8, r⟩ := sel_t r
      obtain ⟨r9, r⟩ := sel_t r
      obtain ⟨r10, r⟩ := sel_t r
      obtain ⟨r11, r12⟩ := sel_t r
      have r8 := beq_t r8
      have r9 := beq_t r9
      have r6 := ble_t r6
      have r7 := ble_t r7
      have hv := evalF_ok (fuel := fuel) hX hm hH hd N f g st w args z s hK hh hD hs h0 (by rw [hst]; exact hr)
      refine hv.mono fun v w' ⟨g', hp⟩ => ⟨g.mv g' nM L, ?_⟩
      have a1 : st.nM = nM := by rw [hst]
      have a2 : st.M = M := by rw [hst]
      have a3 : st.nR = nR := by rw [hst]
      have a4 : st.R = R := by rw [hst]
      obtain ⟨q1, q2⟩ := moved (n := nM) (L := L) (e := nM2) (M2 := M2) (T := T) (D := [(n, [])]) hh hp.hr hp.fr (fun i hi => gt_low (n := st.nM) (M := st.M) (by rw [a1, a2]; exact beq_t r1) i hi) (blt_t r4) (fun i hi => gt_low (n := st.nM) (M := st.M) (by rw [a1, a2]; exact beq_t r2) i hi)
        a1.symm r10 r6 r11 (R := R2) (nR := nR2) (blt_t r5)
      rw [← r8, ← r9]
      exact ⟨q1, q2, ⟨by rw [a3]; exact r7, fun i hi => gt_low (n := st.nR) (M := st.R) (by rw [a3, a4]; exact beq_t r3) i hi⟩, okT_tr r10 r6 hp.tr r12⟩
end
end Ev
end Go.Proofs.YtgdibfnpkcdiiaaGreatDoor
