/- Slices: making, appending, copying. No condition. -/
import Derived.Test.YtgdibfnpkcdiiaaGreatDoorEvL
namespace Go.Proofs.YtgdibfnpkcdiiaaGreatDoor
namespace Ev

/-- A row so many times. -/
noncomputable def rep (s z : Nat) : Nat → Nat := fun n => Nat.rec 0 (fun _ r => ad z s r) n
theorem rep_succ (s z n : Nat) : rep s z (n + 1) = ad z s (rep s z n) := rfl
theorem rep_ok {s z : Nat} (hz : z < 2 ^ (128 * s)) : ∀ n, rep s z n < 2 ^ (128 * (n * s)) ∧ ∀ j, j < n * s → gt (rep s z n) j = gt z (j % s)
  | 0 => ⟨by rw [Nat.zero_mul]; exact Nat.two_pow_pos _, fun j hj => by omega⟩
  | n + 1 => by
    obtain ⟨h1, h2⟩ := rep_ok hz n
    have es : (n + 1) * s = s + n * s := by rw [Nat.succ_mul, Nat.add_comm]
    rw [rep_succ, es]
    refine ⟨ad_lt hz h1, fun j hj => ?_⟩
    rw [gt_ad _ _ hz]
    by_cases hjs : j < s
    · rw [if_pos hjs, Nat.mod_eq_of_lt hjs]
    · rw [if_neg hjs, h2 _ (by omega)]
      congr 1
      rw [← Nat.mod_eq_sub_mod (by omega)]

section
variable {P : Program} {K : Kon} {o : Oper}

noncomputable def opMk (size z : Nat) (l c : Opd) (st : St) : RS :=
  sel (isIx (rd st.T l)) (sel (isIx (rd st.T c)) (sel (Nat.ble (ixN (rd st.T l)) (ixN (rd st.T c))) (sel (Nat.beq (ixN (rd st.T c)) 0) (.ok 57 st)
    (sel (Nat.blt st.nM 16777216) (sel (Nat.blt (ixN (rd st.T c)) 16777216) (sel (Nat.blt (Nat.mul (ixN (rd st.T c)) size) 16777216) (fc (ad st.M st.nM (rep size z (ixN (rd st.T c)))) fun M =>
      .ok (Nat.add (Nat.add (Nat.add (Nat.add 7 (Nat.mul 16 st.nM)) (Nat.mul 268435456 (Nat.mul (ixN (rd st.T c)) size))) (Nat.mul 4503599627370496 (ixN (rd st.T l)))) (Nat.mul 75557863725914323419136 size))
        (setM M (Nat.add (Nat.add st.nM (Nat.mul (ixN (rd st.T c)) size)) 1) st)) .no) .no) .no)) .no) .no) .no

theorem run_make {t el : TypeId} {q : TypeInfo} {z : Value} (ht : P.underlying t = some (.slice el)) (hq : P.info? el = some q) (hz : q.zero = some z) (hb : q.bytes ≤ 16777216) (k k' : IntKind) (l c : Nat) (hlc : l ≤ c) (hc : c < 16777216) (w : World) :
    (Instr.makeSlice t (.int k (l : Int)) (.int k' (c : Int))).run P w =
      .ok (.slice (some ⟨w.heap.size, 0, none⟩) l c) (w.alloc (.cells (if c * q.size = 0 then (Array.range (c * q.size)).map (fun i => (#[] : Array Value)[i % (#[] : Array Value).size]!) else (Array.range (c * q.size)).map (fun i => z.cells[i % z.cells.size]!)) el)) := by
  have w1 : IntKind.i64.wrap (l : Int) = l := wrap_small _ (by omega) (by omega)
  have w2 : IntKind.i64.wrap (c : Int) = c := wrap_small _ (by omega) (by omega)
  have hm : q.bytes * c ≤ 281474976710656 := Nat.le_trans (Nat.mul_le_mul hb (Nat.le_of_lt hc)) (by decide)
  have hm2 : ¬ ((q.bytes : Int) * (c : Int) > 2 ^ 48) := by
    have := Int.ofNat_le.2 hm
    rw [Int.natCast_mul] at this; omega
  have h1 : ¬ ((c : Int) < 0) := by omega
  have h2 : ¬ ((l : Int) < 0) := by omega
  have h3 : ¬ ((l : Int) > (c : Int)) := by omega
  have hroom : (askRoom (c * q.bytes)).run P w = .ok () w := by
    unfold askRoom
    split <;> rfl
  simp only [Instr.makeSlice, asInt, asIntOf, Sem.run_bind, run_underlying ht, Sem.run_pure, Result.andThen_ok, run_typ hq, w1, w2, h1, h2, h3, hm2, decide_false, Bool.or_self, Bool.false_eq_true, if_false, Int.toNat_natCast, hroom, run_siz hq]
  by_cases h0 : c * q.size = 0
  · simp only [if_pos h0, Sem.run_pure, Result.andThen_ok, newRow, Sem.run_bind, run_newObj_alloc]
  · simp only [if_neg h0, zeroValue, Sem.run_bind, run_typ hq, hz, Sem.run_pure, Result.andThen_ok, newRow, run_newObj_alloc]

theorem opMk_ok {t el : TypeId} {l c : Operand} {q : TypeInfo} {z : Value} (ho : o.op = .makeSlice t l c) (ht : P.underlying t = some (.slice el)) (hq : P.info? el = some q) (hz : q.zero = some z) (hb : q.bytes ≤ 16777216) (h0 : 0 < q.size) (he : q.size < 256)
    (hs : z.cells.size = q.size) (hk0 : cells0B K z.cells.toList = true) : OpV P K o (opMk q.size (cells0 K z.cells.toList) (cOp K l) (cOp K c)) := fun g st a w x st' hk hh hy e => by
  unfold opMk at e
  obtain ⟨h1, e⟩ := sel_ok e
  obtain ⟨h2, e⟩ := sel_ok e
  obtain ⟨h3, e⟩ := sel_ok e
  have h3 := ble_t h3
  obtain ⟨k1, v1⟩ := (hy l (by simp [ho, Op.operands])).ixN h1
  obtain ⟨k2, v2⟩ := (hy c (by simp [ho, Op.operands])).ixN h2
  revert e h3 v1 v2
  generalize ixN (rd st.T (cOp K l)) = l'
  generalize ixN (rd st.T (cOp K c)) = c'
  intro e h3 v1 v2
  cases hc : Nat.beq c' 0 with
  | true =>
    rw [hc, sel_true] at e
    injection e with e1 e2
    have hc := beq_t hc
    subst hc
    have : l' = 0 := by omega
    subst this
    subst e2
    have hr := run_make ht hq hz hb k1 k2 0 0 (Nat.le_refl _) (by decide) w
    obtain ⟨r1, r2⟩ := hh.push (.cells (if 0 * q.size = 0 then (Array.range (0 * q.size)).map (fun i => (#[] : Array Value)[i % (#[] : Array Value).size]!) else (Array.range (0 * q.size)).map (fun i => z.cells[i % z.cells.size]!)) el)
    refine ⟨g, _, .slice (some ⟨w.heap.size, 0, none⟩) 0 0, .inl ?_, ⟨r1, r2, Ext.refl _ _, by rw [← e1]; exact .cell _ _ (.semp _), rfl, rfl⟩, fun q => absurd q (by simp [ho, quietB])⟩
    simp only [execOp, ho, v1, v2, Sem.run_bind, hr, Result.andThen_ok]; rfl
  | false =>
    rw [hc, sel_false] at e
    obtain ⟨h4, e⟩ := sel_ok e
    obtain ⟨h5, e⟩ := sel_ok e
    obtain ⟨h6, e⟩ := sel_ok e
    rw [fc_eq] at e
    injection e with e1 e2
    have hc := beq_f hc
    have h4 := blt_t h4
    have h5 := blt_t h5
    have h6 := blt_t h6
    simp only [nA, nM] at e1 e2 h6
    obtain ⟨c1, c2⟩ := cells0_ok hk hk0
    rw [Array.length_toList, hs] at c1 c2
    obtain ⟨r1, r2⟩ := rep_ok c1 c'
    have hne : c' * q.size ≠ 0 := fun h => by
      rcases Nat.mul_eq_zero.1 h with h | h <;> omega
    have hcell : ∀ j, j < c' * q.size → ((Array.range (c' * q.size)).map (fun i => z.cells[i % z.cells.size]!)).getD j undef = z.cells.getD (j % q.size) undef := fun j hj => by
      have hlt : j % q.size < z.cells.size := by rw [hs]; exact Nat.mod_lt _ h0
      rw [Array.getD_eq_getD_getElem?, Array.getElem?_map, Array.getElem?_range, if_pos hj]
      simp only [Option.map_some, Option.getD_some, hs]
      rw [getElem!_pos z.cells _ hlt, Array.getD_eq_getD_getElem?, Array.getElem?_eq_getElem hlt]; rfl
    have hvr : ∀ j, j < c' * q.size → VR g (gt (rep q.size (cells0 K z.cells.toList) c') j) (((Array.range (c' * q.size)).map (fun i => z.cells[i % z.cells.size]!)).getD j undef) := fun j hj => by
      rw [hcell j hj, r2 j hj]
      have := c2 (j % q.size) (Nat.mod_lt _ h0)
      rwa [List.getD_eq_getElem?_getD, Array.getElem?_toList, ← Array.getD_eq_getD_getElem?] at this
    have hmul : l' * q.size ≤ c' * q.size := Nat.mul_le_mul_right _ h3
    have hlast : 7 + 16 * st.nM + 268435456 * (c' * q.size) + 4503599627370496 * l' + 75557863725914323419136 * q.size = x := e1
    -- the allocation has all the cells there is room for
    obtain ⟨a1, a2⟩ := hh.alloc ((Array.range (c' * q.size)).map (fun i => z.cells[i % z.cells.size]!)) el (0, 0) (n := c' * q.size) (cw := rep q.size (cells0 K z.cells.toList) c') (by simp) r1 hvr (fun i hi => (hvr i (by simpa using hi)).one) (.inl rfl)
    have hr := run_make ht hq hz hb k1 k2 l' c' h3 h5 w
    rw [if_neg hne] at hr
    subst e2
    refine ⟨_, _, .slice (some ⟨w.heap.size, 0, none⟩) l' c', .inl ?_, ⟨a1, a2, Ext.refl _ _, ?_, rfl, rfl⟩, fun q => absurd q (by simp [ho, quietB])⟩
    rotate_left
    · rw [← hlast]
      have : 7 + 16 * st.nM + 268435456 * (c' * q.size) + 4503599627370496 * l' + 75557863725914323419136 * q.size = eSli st.nM (c' * q.size) l' q.size 0 := rfl
      rw [this]
      exact .cell _ _ (.sli st.nM _ l' q.size 0 w.heap.size 0 _ c' ⟨w.heap.size, 0, none⟩ h4 h6 (by omega) he (by rw [Gh.put_rho, if_pos rfl]) (by omega) h3 (.inr ⟨rfl, by simp⟩))
    · simp only [execOp, ho, v1, v2, Sem.run_bind, hr, Result.andThen_ok]; rfl

/-! ### append -/
/-- What is appended: so many elements, these words. -/
structure Src where
  n : Nat
  c : Nat

theorem run_app_room {t u el : TypeId} {d : TypeDesc} {q : TypeInfo} (ht : P.underlying t = some (.slice el)) (hu : P.underlying u = some d) (hd : d = .string ∨ ∃ e', d = .slice e') (hq : P.info? el = some q) (ty : TypeId) {xv : Value} {n sLen sCap : Nat} {ba : Option Addr}
    (hl : Builtin.lenOf xv = pure n) (hroom : sLen + n ≤ sCap) {news : Array Value} {w w' : World} (hf : (Builtin.firstCells q.size n xv).run P w = .ok news w)
    (hst : ∀ a, ba = some a → (storeCells (a.add (sLen * q.size)) news.toList).run P w = .ok () w') (hno : ba = none → w' = w) :
    (Builtin.append_ #[t, u] ty #[.slice ba sLen sCap, xv]).run P w = .ok (.slice ba (sLen + n) sCap) w' := by
  cases ba with
  | none =>
    have := hno rfl; subst this
    rcases hd with rfl | ⟨e', rfl⟩ <;> simp [Builtin.append_, run_underlying ht, run_underlying hu, run_siz hq, hl, hroom, hf]
  | some a =>
    have h1 := hst a rfl
    rcases hd with rfl | ⟨e', rfl⟩ <;> simp [Builtin.append_, run_underlying ht, run_underlying hu, run_siz hq, hl, hroom, hf, h1]

theorem run_app_grow {t u el : TypeId} {d : TypeDesc} {q : TypeInfo} {z : Value} (ht : P.underlying t = some (.slice el)) (hu : P.underlying u = some d) (hd : d = .string ∨ ∃ e', d = .slice e') (hq : P.info? el = some q) (hz : q.zero = some z) (ty : TypeId) {xv : Value} {n sLen sCap : Nat} {ba : Option Addr}
    (hl : Builtin.lenOf xv = pure n) (hgr : sCap < sLen + n) (h63 : ((sLen + n : Nat) : Int) ≤ 9223372036854775807) (hfit : Builtin.nextslicecap (sLen + n) sCap * q.bytes ≤ 281474976710656) {olds news : Array Value} {w : World}
    (ho' : ∀ w' : World, w'.heap = w.heap → (Builtin.firstCells q.size sLen (.slice ba sLen sCap)).run P w' = .ok olds w') (hf : ∀ w' : World, w'.heap = w.heap → (Builtin.firstCells q.size n xv).run P w' = .ok news w') :
    (Builtin.append_ #[t, u] ty #[.slice ba sLen sCap, xv]).run P w =
      .ok (.slice (some ⟨w.heap.size, 0, none⟩) (sLen + n) (grownCap w (sLen + n) sCap el)) (w.drew.alloc (.cells (olds ++ news ++ Builtin.zeroCells z.cells (grownCap w (sLen + n) sCap el - (sLen + n))) el)) := by
  have hno : ¬ (sLen + n ≤ sCap) := by omega
  have h1 : ¬ (9223372036854775807 < ((sLen : Int) + (n : Int))) := by omega
  have h2 : ¬ (281474976710656 < Builtin.nextslicecap (sLen + n) sCap * q.bytes) := by omega
  have o1 := ho' w.drew rfl
  have f1 := hf w.drew rfl
  have hr : ∀ (k : Nat) (w : World), (askRoom k).run P w = .ok () w := fun k w => by unfold askRoom; split <;> rfl
  rcases hd with rfl | ⟨e', rfl⟩ <;> simp [Builtin.append_, run_underlying ht, run_underlying hu, run_siz hq, run_typ hq, zeroValue, hz, hl, hno, h1, h2, Question.forced, f1, o1, hr, newRow, grownCap]
end
end Ev
end Go.Proofs.YtgdibfnpkcdiiaaGreatDoor
