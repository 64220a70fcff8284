/- Insertions into maps and lookups: they are right. No condition. -/
import Derived.Test.YtgdibfnpkcdiiaaGreatDoorEvT
namespace Go.Proofs.YtgdibfnpkcdiiaaGreatDoor
namespace Ev

section
variable {P : Program} {K : Kon} {o : Oper} {g : Gh} {st : St} {w : World}

theorem TR.map' {R nR x : Nat} {v : Value} (h : TR g R nR x v) (hm : x % 16 = 8) : ∃ blk, v = .map (some blk) ∧ x / 16 < 16777216 ∧ g.rho (x / 16) = .map blk := by
  obtain ⟨s, blk, rfl, e, h1, h2⟩ := (h.cell_inv (by omega) (by omega) (by omega) (by omega)).map_inv hm
  rw [eMap_div]
  exact ⟨blk, e, h1, h2⟩

theorem key_vr {R nR x : Nat} {v : Value} {kd : TypeDesc} (h : TR g R nR x v) (hm : x % 16 = ktOf kd) (h0 : ktOf kd ≠ 0) : VR g x v := by
  have : ktOf kd = 3 ∨ ktOf kd = 2 := by cases kd <;> simp_all [ktOf]
  exact h.cell_inv (by omega) (by omega) (by omega) (by omega)

theorem mul_succ' (a b : Nat) : (a + 1) * b = a * b + b := Nat.succ_mul a b

/-- The words of a map's value. -/
theorem valR_ch {M s b nv : Nat} {ws : List Nat} {v : Value} (h : ValR g ws b nv v) (hr : ∀ i, i < ws.length → gt M (s + i) = ws.getD i 0) (hb : b + (if nv = 0 then 1 else nv) ≤ ws.length) :
    if nv = 0 then VR g (ch M (s + b) 1) v else ∃ vs : Array Value, v = .agg vs ∧ vs.size = nv ∧ ∀ i, i < nv → VR g (gt (ch M (s + b) nv) i) (vs.getD i undef) := by
  unfold ValR at h
  split
  · rename_i h0
    rw [if_pos h0] at h hb
    rw [← gt_eq, hr _ (by omega)]; exact h
  · rename_i h0
    rw [if_neg h0] at h hb
    obtain ⟨vs, e1, e2, e3⟩ := h
    refine ⟨vs, e1, e2, fun i hi => ?_⟩
    rw [gt_ch, if_pos hi, Nat.add_assoc, hr _ (by omega)]
    exact e3 i hi

theorem opIns_ok {t kt el : TypeId} {kd : TypeDesc} {nv : Nat} {m k x : Operand} (ho : o.op = .insert t m k x ∨ o.op = .mapUpdate t m k x) (ht : P.underlying t = some (.map kt el)) (hd : P.underlying kt = some kd) (h0 : ktOf kd ≠ 0) (hv : nv < 256) :
    OpV P K o (opIns (ktOf kd) nv (cOp K m) (cOp K k) (cOp K x)) := fun g st a w z st' hk hh hy e => by
  have mm : m ∈ o.op.operands ∧ k ∈ o.op.operands ∧ x ∈ o.op.operands := by rcases ho with ho | ho <;> simp [ho, Op.operands]
  have hym := hy m mm.1
  have hyk := hy k mm.2.1
  have hyx := hy x mm.2.2
  unfold opIns at e
  obtain ⟨h1, e⟩ := sel_ok e
  obtain ⟨h2, e⟩ := sel_ok e
  rw [fc_eq] at e
  obtain ⟨h3, e⟩ := sel_ok e
  have h1 := beq_t h1
  have h2 := beq_t h2
  have h3 := beq_t h3
  simp only [nD] at h3 e
  generalize hX : rd st.T (cOp K x) = X at *
  generalize hKw : rd st.T (cOp K k) = Kw at *
  generalize hMw : rd st.T (cOp K m) = Mw at *
  obtain ⟨blk, b1, b2, b3⟩ := hym.map' h1
  obtain ⟨c, nv', s', ws, es, clock, c1, c2, c3, c4, c5, c6, c7, c8, c9, c10, c11⟩ := hh.mapAt b3
  have hkv := key_vr hyk h2 h0
  rw [c1] at h3 e
  obtain ⟨p1, p2, p3⟩ := mp_parts (s := s') c2 c3
  rw [p2] at h3
  subst h3
  rw [p1, p3, hh.S] at e
  cases hf : findK g.S st.M s' (stride nv') Kw c c with
  | none => rw [hf] at e; cases e
  | some j =>
    rw [hf] at e
    dsimp only at e
    obtain ⟨h4, e⟩ := sel_ok e
    obtain ⟨h5, e⟩ := sel_ok e
    obtain ⟨h6, e⟩ := sel_ok e
    obtain ⟨h7, e⟩ := sel_ok e
    rw [fc_eq, fc_eq] at e
    injection e with e1 e2
    have h4 := beq_t h4
    subst h4
    have h5 := blt_t h5
    have h6 := blt_t h6
    simp only [nA, nM] at e2 h6
    obtain ⟨_, hnow⟩ := findK_ok (M := st.M) (s := s') (str := stride nv') hkv h2 (by rw [Array.length_toList]; exact c7) c10 c (Nat.le_refl _) hf
    simp only [Nat.sub_self, List.drop_zero, if_pos] at hnow
    -- the row
    have hsp := stride_pos nv'
    have hKlt := hkv.lt
    obtain ⟨V, nV, hVd, hVlt, hVn, hVv⟩ : ∃ V nV, V = sel (Nat.beq nv' 0) X (ch st.R (sa X) nv') ∧ V < 2 ^ (128 * nV) ∧ stride nv' = nV + 1 ∧
        (if nv' = 0 then VR g (gt V 0) (a.eval x) else ∃ vs : Array Value, a.eval x = .agg vs ∧ vs.size = nv' ∧ ∀ i, i < nv' → VR g (gt V i) (vs.getD i undef)) := by
      cases hb : Nat.beq nv' 0 with
      | true =>
        rw [hb, sel_true] at h7
        have hb := beq_t hb
        have hx := hyx.cellB h7
        refine ⟨X, 1, rfl, hx.lt, by simp [stride, hb], ?_⟩
        rw [if_pos hb, gt_word _ hx.lt, if_pos rfl]; exact hx
      | false =>
        rw [hb, sel_false] at h7
        have hb := beq_f hb
        obtain ⟨h8, h9⟩ : Nat.beq (Nat.mod X 16) 12 = true ∧ Nat.beq (ln X) nv' = true := by
          cases q : Nat.beq (Nat.mod X 16) 12 with
          | true => rw [q, sel_true] at h7; exact ⟨rfl, h7⟩
          | false => rw [q, sel_false] at h7; cases h7
        obtain ⟨vs, d1, d2, d3, d4, d5, d6, d7⟩ := hyx.agg' (beq_t h8)
        have h9 := beq_t h9
        refine ⟨ch st.R (sa X) nv', nv', rfl, ch_lt _ _ _, by simp [stride, hb], ?_⟩
        rw [if_neg hb]
        refine ⟨vs, d2, by omega, fun i hi => ?_⟩
        rw [gt_ch, if_pos hi]; exact d7 i (by omega)
    rw [← hVd] at e2
    have hE : ad Kw 1 V < 2 ^ (128 * (stride nv')) := by rw [hVn, Nat.add_comm]; exact ad_lt (n := nV) (i := 1) hKlt hVlt
    have hC := ch_lt st.M s' (c * stride nv')
    have hcw := ad_lt hC hE
    generalize hcwd : ad (ch st.M s' (c * stride nv')) (c * stride nv') (ad Kw 1 V) = cw at *
    have g1 : ∀ i, i < c * stride nv' → gt cw i = ws.getD i 0 := fun i hi => by
      rw [← hcwd, gt_ad _ _ hC, if_pos hi, gt_ch, if_pos hi, c9 i (by omega)]
    have g2 : gt cw (c * stride nv') = Kw := by
      rw [← hcwd, gt_ad _ _ hC, if_neg (by omega), Nat.sub_self, gt_ad (i := 1) _ _ hKlt, if_pos (by omega), gt_word _ hKlt, if_pos rfl]
    have g3 : ∀ j, gt cw (c * stride nv' + 1 + j) = gt V j := fun j => by
      rw [← hcwd, gt_ad _ _ hC, if_neg (by omega), gt_ad (i := 1) _ _ hKlt, if_neg (by omega)]
      congr 1; omega
    have hn : (c + 1) * stride nv' = c * stride nv' + stride nv' := Nat.succ_mul _ _
    let ws' := (List.range ((c + 1) * stride nv')).map (gt cw)
    have hl' : ws'.length = (c + 1) * stride nv' := by simp [ws']
    have hg' : ∀ i, i < (c + 1) * stride nv' → ws'.getD i 0 = gt cw i := fun i hi => by simp [ws', List.getD_eq_getElem?_getD, hi]
    obtain ⟨r1, r2⟩ := hh.row ws' (cw := cw) (by rw [hl', hn]; exact hcw) (fun i hi => (hg' i (by omega)).symm)
    have hle := r2.le
    have hmap : (g.put st.nM (.row ws')).rho (Mw / 16) = .map blk := by rw [hle.rho _ (by rw [b3]; simp), b3]
    have hst : ∀ i, i < c → i * stride nv' + stride nv' ≤ c * stride nv' := fun i hi => by
      have := Nat.mul_le_mul_right (stride nv') (Nat.succ_le_of_lt hi)
      rw [Nat.succ_mul] at this; exact this
    have hmr : MapR (g.put st.nM (.row ws')) (eMp (c + 1) nv' st.nM) (.map (es.push { key := a.eval k, val := a.eval x, born := clock }) (clock + 1)) := by
      refine ⟨c + 1, nv', st.nM, ws', _, _, rfl, h6, c3, h5, by rw [Gh.put_rho, if_pos rfl], rfl, by simp [c7], hl', fun i hi => ?_⟩
      by_cases hic : i < c
      · have hi2 : i < es.size := by omega
        have := hst i hic
        rw [Array.getElem_push_lt hi2, hg' _ (by omega), g1 _ (by omega)]
        obtain ⟨k1, k2⟩ := c11 i hi2
        refine ⟨k1.mono hle, ?_⟩
        unfold ValR at k2 ⊢
        split
        · rename_i hz; rw [if_pos hz] at k2
          have : stride nv' = 2 := by simp [stride, hz]
          rw [hg' _ (by omega), g1 _ (by omega)]; exact k2.mono hle
        · rename_i hz; rw [if_neg hz] at k2
          have : stride nv' = nv' + 1 := by simp [stride, hz]
          obtain ⟨vs, v1, v2, v3⟩ := k2
          refine ⟨vs, v1, v2, fun q hq => ?_⟩
          rw [hg' _ (by omega), g1 _ (by omega)]; exact (v3 q hq).mono hle
      · have hie : i = c := by simp at hi; omega
        subst hie
        have hlast : (es.push { key := a.eval k, val := a.eval x, born := clock })[i] = { key := a.eval k, val := a.eval x, born := clock } := by
          simp [← c7]
        rw [hlast, hg' _ (by omega), g2]
        refine ⟨hkv.mono hle, ?_⟩
        unfold ValR
        split
        · rename_i hz; rw [if_pos hz] at hVv
          have : stride nv' = 2 := by simp [stride, hz]
          have g30 := g3 0
          rw [Nat.add_zero] at g30
          rw [hg' _ (by omega), g30]; exact hVv.mono hle
        · rename_i hz; rw [if_neg hz] at hVv
          have : stride nv' = nv' + 1 := by simp [stride, hz]
          obtain ⟨vs, v1, v2, v3⟩ := hVv
          refine ⟨vs, v1, v2, fun q hq => ?_⟩
          rw [hg' _ (by omega), g3]; exact (v3 q hq).mono hle
    obtain ⟨q1, q2⟩ := r1.mapSet hmap (eMp_lt h6 c3 (by omega)) hmr
    subst e2
    refine ⟨_, _, undef, .inr ⟨?_, rfl⟩, ⟨?_, r2.trans q2, Ext.refl _ _, by rw [← e1]; exact .unk _, rfl, rfl⟩, fun q => absurd q (by rcases ho with ho | ho <;> simp [ho, quietB])⟩
    · rcases ho with ho | ho <;>
        simp only [execOp, ho, b1, Instr.mapUpdate, Sem.run_bind, run_underlying ht, Result.andThen_ok, get_map c6, run_key hd h0 (a.eval k) _ 9999, find_key hd hnow, set_map _ c6] <;> rfl
    · rw [hl'] at q1; first | exact q1 | (rw [← hh.S] at q1; exact q1)

/-- A value that is missing. -/
theorem zOk_ok {nv : Nat} {z : Value} (h : zOk nv z = true) : if nv = 0 then z.oneCell' = true else ∃ vs : Array Value, z = .agg vs ∧ vs.size = nv := by
  unfold zOk at h
  split
  · rename_i h0; rw [if_pos h0] at h; exact h
  · rename_i h0; rw [if_neg h0] at h
    cases z <;> first | (exact ⟨_, rfl, by simpa using h⟩) | (exact absurd h (by simp))

/-- What a lookup finds. -/
theorem look_ok (hk : K.In g) (hh : HR g st w) {s blk nv j : Nat} {Kw : Nat} {kv z : Value} {kd : TypeDesc} (hr : g.rho s = .map blk) (hkv : VR g Kw kv) (h2 : Kw % 16 = ktOf kd) (h3 : mv (gt st.M s) = nv)
    (hz : zOk nv z = true) (hzb : cells0B K z.cells.toList = true)
    (hf : findK st.S st.M (ms (gt st.M s)) (stride nv) Kw (mc (gt st.M s)) (mc (gt st.M s)) = some j) :
    ∃ es clock r, w.heap[blk]? = some (.map es clock) ∧ nv < 256 ∧ Instr.findNow kd kv es.toList 0 = some r ∧ (∀ p, r = some p → j ≠ 0) ∧ (r = none → j = 0) ∧
      (if nv = 0 then VR g (sel (Nat.beq j 0) (cells0 K z.cells.toList) (ch st.M (ms (gt st.M s) + (j - 1) * stride nv + 1) 1)) ((r.map (·.2)).getD z)
        else sel (Nat.beq j 0) (cells0 K z.cells.toList) (ch st.M (ms (gt st.M s) + (j - 1) * stride nv + 1) nv) < 2 ^ (128 * nv) ∧
          ∃ vs : Array Value, ((r.map (·.2)).getD z) = .agg vs ∧ vs.size = nv ∧
            ∀ i, i < nv → VR g (gt (sel (Nat.beq j 0) (cells0 K z.cells.toList) (ch st.M (ms (gt st.M s) + (j - 1) * stride nv + 1) nv)) i) (vs.getD i undef)) := by
  obtain ⟨c, nv', s', ws, es, clock, c1, c2, c3, c4, c5, c6, c7, c8, c9, c10, c11⟩ := hh.mapAt hr
  rw [c1] at h3 hf ⊢
  obtain ⟨p1, p2, p3⟩ := mp_parts (s := s') c2 c3
  rw [p2] at h3
  subst h3
  rw [p1, p3, hh.S] at hf
  rw [p3]
  obtain ⟨hj, hnow⟩ := findK_ok (M := st.M) (s := s') (str := stride nv') hkv h2 (by rw [Array.length_toList]; exact c7) c10 c (Nat.le_refl _) hf
  simp only [Nat.sub_self, List.drop_zero] at hnow
  refine ⟨es, clock, _, c6, c3, hnow, ?_, ?_, ?_⟩
  · intro p hp h0; rw [if_pos h0] at hp; cases hp
  · intro hp
    by_cases h0 : j = 0
    · exact h0
    · rw [if_neg h0] at hp; cases hp
  · obtain ⟨zc1, zc2⟩ := cells0_ok hk hzb
    have hzz := zOk_ok hz
    by_cases h0 : j = 0
    · subst h0
      rw [show Nat.beq 0 0 = true from rfl, sel_true, sel_true, if_pos rfl]
      split
      · rename_i hn
        rw [if_pos hn] at hzz
        have hc := cells_one hzz
        rw [hc] at zc1 zc2 ⊢
        have := zc2 0 (by simp)
        rw [gt_word _ zc1, if_pos rfl] at this
        exact this
      · rename_i hn
        rw [if_neg hn] at hzz
        obtain ⟨vs, rfl, hs⟩ := hzz
        have hl : (Value.agg vs).cells.toList = vs.toList := rfl
        rw [hl] at zc1 zc2 ⊢
        rw [Array.length_toList, hs] at zc1
        refine ⟨zc1, vs, rfl, hs, fun i hi => ?_⟩
        have := zc2 i (by rw [Array.length_toList]; omega)
        rwa [List.getD_eq_getElem?_getD, Array.getElem?_toList, ← Array.getD_eq_getD_getElem?] at this
    · have hb : Nat.beq j 0 = false := by cases q : Nat.beq j 0 with
        | true => exact absurd (beq_t q) h0
        | false => rfl
      rw [hb, sel_false, sel_false, if_neg h0]
      have hj' : j - 1 < es.size := by omega
      rw [Array.getElem?_toList, Array.getElem?_eq_getElem hj']
      simp only [Option.map_some, Option.getD_some]
      obtain ⟨_, k2⟩ := c11 (j - 1) hj'
      have hstr : stride nv' = 1 + (if nv' = 0 then 1 else nv') := by unfold stride; split <;> omega
      have hm : (j - 1) * stride nv' + stride nv' ≤ ws.length := by
        have := Nat.mul_le_mul_right (stride nv') (show j - 1 + 1 ≤ c by omega)
        rw [Nat.succ_mul] at this; omega
      have := valR_ch (M := st.M) (s := s') k2 c9 (by omega)
      rw [← Nat.add_assoc] at this
      split
      · rename_i hn; rw [if_pos hn] at this; exact this
      · rename_i hn; rw [if_neg hn] at this; exact ⟨ch_lt _ _ _, this⟩

theorem opLk1_ok {t kt el : TypeId} {kd : TypeDesc} {i : TypeInfo} {z : Value} {nv : Nat} {m k : Operand} (ho : o.op = .lookup t m k false) (ht : P.underlying t = some (.map kt el)) (hd : P.underlying kt = some kd) (h0 : ktOf kd ≠ 0)
    (hi : P.info? el = some i) (hz : i.zero = some z) (hzo : zOk nv z = true) (hzb : cells0B K z.cells.toList = true) : OpV P K o (opLk1 (ktOf kd) nv (cells0 K z.cells.toList) (cOp K m) (cOp K k)) := fun g st a w x st' hk hh hy e => by
  have hym := hy m (by simp [ho, Op.operands])
  have hyk := hy k (by simp [ho, Op.operands])
  unfold opLk1 at e
  obtain ⟨h2, f1⟩ := sel_ok e
  obtain ⟨h1, f2⟩ := sel_ok f1
  rw [fc_eq] at f2
  obtain ⟨h4, f3⟩ := sel_ok f2
  obtain ⟨h3, f4⟩ := sel_ok f3
  clear e f1 f2 f3
  have e := f4
  clear f4
  have h1 := beq_t h1
  have h2 := beq_t h2
  have h3 := beq_t h3
  have h4 := beq_t h4
  subst h4
  simp only [nD] at h3 e
  generalize hKw : rd st.T (cOp K k) = Kw at *
  generalize hMw : rd st.T (cOp K m) = Mw at *
  obtain ⟨blk, b1, b2, b3⟩ := hym.map' h1
  cases hf : findK st.S st.M (ms (gt st.M (Mw / 16))) 2 Kw (mc (gt st.M (Mw / 16))) (mc (gt st.M (Mw / 16))) with
  | none => rw [hf] at e; cases e
  | some j =>
    rw [hf] at e
    injection e with e1 e2
    obtain ⟨es, clock, r, q1, q2, q3, q4, q5, q6⟩ := look_ok hk hh (nv := 0) b3 (key_vr hyk h2 h0) h2 h3 hzo hzb hf
    rw [if_pos rfl] at q6
    subst e2
    refine ⟨g, w, ((r.map (·.2)).getD z), .inl ?_, .same hh ?_, fun _ => .inl rfl⟩
    · simp only [execOp, ho, b1, Sem.run_bind, run_look ht hd h0 hi hz q1 q3, Result.andThen_ok, Sem.run_pure]
      rfl
    · rw [← e1]
      exact .cell _ _ q6

theorem opLk_ok {t kt el : TypeId} {kd : TypeDesc} {i : TypeInfo} {z : Value} {nv : Nat} {m k : Operand} (ho : o.op = .lookup t m k true) (ht : P.underlying t = some (.map kt el)) (hd : P.underlying kt = some kd) (h0 : ktOf kd ≠ 0)
    (hi : P.info? el = some i) (hz : i.zero = some z) (hzo : zOk nv z = true) (hzb : cells0B K z.cells.toList = true) : OpV P K o (opLk (ktOf kd) nv (cells0 K z.cells.toList) (cOp K m) (cOp K k)) := fun g st a w x st' hk hh hy e => by
  have hym := hy m (by simp [ho, Op.operands])
  have hyk := hy k (by simp [ho, Op.operands])
  unfold opLk at e
  obtain ⟨h1, e⟩ := sel_ok e
  obtain ⟨h2, e⟩ := sel_ok e
  rw [fc_eq] at e
  obtain ⟨h3, e⟩ := sel_ok e
  obtain ⟨h4, e⟩ := sel_ok e
  have h1 := beq_t h1
  have h2 := beq_t h2
  have h3 := beq_t h3
  have h4 := blt_t h4
  simp only [nD] at h3 e
  simp only [nA] at h4
  generalize hKw : rd st.T (cOp K k) = Kw at *
  generalize hMw : rd st.T (cOp K m) = Mw at *
  obtain ⟨blk, b1, b2, b3⟩ := hym.map' h1
  cases hf : findK st.S st.M (ms (gt st.M (Mw / 16))) (stride nv) Kw (mc (gt st.M (Mw / 16))) (mc (gt st.M (Mw / 16))) with
  | none => rw [hf] at e; cases e
  | some j =>
    rw [hf] at e
    dsimp only at e
    rw [fc_eq] at e
    obtain ⟨es, clock, r, q1, q2, q3, q4, q5, q6⟩ := look_ok hk hh b3 (key_vr hyk h2 h0) h2 h3 hzo hzb hf
    have hok : sel (Nat.beq j 0) 1 17 = eBool r.isSome := by
      cases r with
      | none => rw [q5 rfl]; rfl
      | some p =>
        cases q : Nat.beq j 0 with
        | true => exact absurd (beq_t q) (q4 p rfl)
        | false => rfl
    rw [hok] at e
    have hoklt := (VR.bool (g := g) r.isSome).lt
    have hrun : (execOp a.eval o).run P w = .ok (.value (.tuple #[((r.map (·.2)).getD z), .bool r.isSome])) w := by
      simp only [execOp, ho, b1, Sem.run_bind, run_look ht hd h0 hi hz q1 q3, Result.andThen_ok, Sem.run_pure]
      rfl
    generalize r.isSome = okb at *
    generalize (r.map (·.2)).getD z = rv at *
    simp only [nA, nS, nM] at e
    cases hb : Nat.beq nv 0 with
    | true =>
      rw [hb, sel_true, sel_true] at e
      rw [fc_eq] at e
      injection e with e1 e2
      have hb := beq_t hb
      subst hb
      rw [if_pos rfl] at q6
      generalize sel (Nat.beq j 0) (cells0 K z.cells.toList) (ch st.M (ms (gt st.M (Mw / 16)) + (j - 1) * stride 0 + 1) 1) = V at *
      have hVlt := q6.lt
      have hcw : ad V 1 (eBool okb) < 2 ^ (128 * 2) := ad_lt (i := 1) (n := 1) hVlt hoklt
      have hext := Ext.ad 2 (ad V 1 (eBool okb)) hh.Rlt
      subst e2
      refine ⟨g, w, _, .inl hrun, ⟨hh.frame _ _ (ad_lt hh.Rlt hcw), Fr.refl _ _, hext, ?_, rfl, rfl⟩, fun _ => .inl rfl⟩
      rw [← e1]
      refine .tup _ _ _ (by omega) (by omega) (Nat.le_refl _) rfl fun i hi => ?_
      rw [gt_ad _ _ hh.Rlt, if_neg (by omega), show st.nR + i - st.nR = i by omega, gt_ad (i := 1) _ _ hVlt]
      match i, hi with
      | 0, _ => rw [if_pos (by omega), gt_word _ hVlt, if_pos rfl]; exact .cell _ _ q6
      | 1, _ => rw [if_neg (by omega), gt_word _ hoklt, if_pos (by omega)]; exact .cell _ _ (.bool _)
    | false =>
      rw [hb, sel_false, sel_false] at e
      rw [fc_eq] at e
      injection e with e1 e2
      have hb := beq_f hb
      rw [if_neg hb] at q6
      generalize sel (Nat.beq j 0) (cells0 K z.cells.toList) (ch st.M (ms (gt st.M (Mw / 16)) + (j - 1) * stride nv + 1) nv) = V at *
      obtain ⟨hVlt, vs, v1, v2, v3⟩ := q6
      have hAlt : eAgg st.nR nv < 2 ^ 128 := by unfold eAgg; omega
      have hcw : ad V nv (ad (eAgg st.nR nv) 1 (eBool okb)) < 2 ^ (128 * (nv + 2)) := ad_lt hVlt (ad_lt (i := 1) (n := 1) hAlt hoklt)
      have hext := Ext.ad (nv + 2) (ad V nv (ad (eAgg st.nR nv) 1 (eBool okb))) hh.Rlt
      subst e2
      refine ⟨g, w, _, .inl hrun, ⟨hh.frame _ _ (ad_lt hh.Rlt hcw), Fr.refl _ _, hext, ?_, rfl, rfl⟩, fun _ => .inl rfl⟩
      rw [← e1]
      refine .tup _ _ _ (by omega) (by omega) (by show st.nR + nv + 2 ≤ st.nR + (nv + 2); omega) rfl fun i hi => ?_
      rw [gt_ad _ _ hh.Rlt, if_neg (by omega), show st.nR + nv + i - st.nR = nv + i by omega, gt_ad _ _ hVlt, if_neg (by omega), show nv + i - nv = i by omega, gt_ad (i := 1) _ _ hAlt]
      match i, hi with
      | 0, _ =>
        rw [if_pos (by omega), gt_word _ hAlt, if_pos rfl]
        show TR _ _ _ _ rv
        rw [v1]
        refine .agg _ _ _ (by omega) (by omega) (by show st.nR + nv ≤ st.nR + (nv + 2); omega) v2 fun q hq => ?_
        rw [gt_ad _ _ hh.Rlt, if_neg (by omega), show st.nR + q - st.nR = q by omega, gt_ad _ _ hVlt, if_pos hq]
        exact v3 q hq
      | 1, _ => rw [if_neg (by omega), gt_word _ hoklt, if_pos (by omega)]; exact .cell _ _ (.bool _)

end
end Ev
end Go.Proofs.YtgdibfnpkcdiiaaGreatDoor
