/- Stores, allocations, rows built of parts, parts of rows, closures. No condition. -/
import Derived.Test.YtgdibfnpkcdiiaaGreatDoorEvI
namespace Go.Proofs.YtgdibfnpkcdiiaaGreatDoor
namespace Ev

/-- A word of one cell? -/
noncomputable def cellB (w : Nat) : Bool := sel (Nat.beq w 0) false (sel (Nat.ble (Nat.mod w 16) 11) true (Nat.beq (Nat.mod w 16) 15))
theorem TR.cellB {g : Gh} {R nR w : Nat} {v : Value} (h : TR g R nR w v) (hb : cellB w = true) : VR g w v := by
  unfold Ev.cellB at hb
  cases h0 : Nat.beq w 0 with
  | true => rw [h0] at hb; cases hb
  | false =>
    rw [h0, sel_false] at hb
    have h0 := beq_f h0
    cases h1 : Nat.ble (Nat.mod w 16) 11 with
    | true => have h1 := ble_t h1; rw [Ev.nR] at h1; exact h.cell_inv (by omega) (by omega) (by omega) h0
    | false => rw [h1, sel_false] at hb; have hb := beq_t hb; rw [Ev.nR] at hb; exact h.cell_inv (by omega) (by omega) (by omega) h0
theorem cells_one {v : Value} (h : v.oneCell' = true) : v.cells = #[v] := by cases v <;> first | rfl | cases h

/-- Words laid in a row. -/
def rowN (ws : List Nat) : Nat := ws.foldr (fun w n => w + 340282366920938463463374607431768211456 * n) 0
theorem gt_div (M i : Nat) : gt M i = M / 2 ^ (128 * i) % 2 ^ 128 := by
  show (M >>> (128 * i)) &&& (2 ^ 128 - 1) = _
  rw [Nat.and_two_pow_sub_one_eq_mod, Nat.shiftRight_eq_div_pow]
theorem gt_cons {w n i : Nat} (hw : w < 2 ^ 128) : gt (w + 2 ^ 128 * n) i = if i = 0 then w else gt n (i - 1) := by
  rw [gt_div]
  cases i with
  | zero => rw [if_pos rfl, Nat.mul_zero, Nat.pow_zero, Nat.div_one, Nat.add_mul_mod_self_left, Nat.mod_eq_of_lt hw]
  | succ i =>
    rw [if_neg (by omega), Nat.add_sub_cancel, gt_div, show 128 * (i + 1) = 128 + 128 * i by omega, Nat.pow_add, ← Nat.div_div_eq_div_mul,
      Nat.add_mul_div_left _ _ (Nat.two_pow_pos 128), Nat.div_eq_of_lt hw, Nat.zero_add]
theorem gt_rowN : ∀ (ws : List Nat) (i : Nat), (∀ w ∈ ws, w < 2 ^ 128) → gt (rowN ws) i = ws.getD i 0
  | [], i, _ => by rw [show rowN [] = 0 from rfl, gt_zero]; rfl
  | w :: ws, i, h => by
    have e : rowN (w :: ws) = w + 2 ^ 128 * rowN ws := rfl
    rw [e, gt_cons (h w (by simp))]
    cases i with
    | zero => rfl
    | succ i => rw [if_neg (by omega), Nat.add_sub_cancel, gt_rowN ws i (fun x hx => h x (by simp [hx]))]; rfl
theorem rowN_lt : ∀ (ws : List Nat), (∀ w ∈ ws, w < 2 ^ 128) → rowN ws < 2 ^ (128 * ws.length)
  | [], _ => by rw [show rowN [] = 0 from rfl]; exact Nat.two_pow_pos _
  | w :: ws, h => by
    have e : rowN (w :: ws) = w + 2 ^ 128 * rowN ws := rfl
    have ih := rowN_lt ws (fun x hx => h x (by simp [hx]))
    have hw := h w (by simp)
    rw [e, List.length_cons, show 128 * (ws.length + 1) = 128 + 128 * ws.length by omega, Nat.pow_add]
    calc w + 2 ^ 128 * rowN ws < 2 ^ 128 + 2 ^ 128 * rowN ws := Nat.add_lt_add_right hw _
      _ = 2 ^ 128 * (rowN ws + 1) := by rw [Nat.mul_succ, Nat.add_comm]
      _ ≤ _ := Nat.mul_le_mul_left _ ih

noncomputable def cells0 (K : Kon) (l : List Value) : Nat := rowN (l.map (cV K))
noncomputable def cells0B (K : Kon) (l : List Value) : Bool := l.all fun v => cellB (cV K v)
theorem cells0_ok {K : Kon} {g : Gh} (h : K.In g) {l : List Value} (hb : cells0B K l = true) : cells0 K l < 2 ^ (128 * l.length) ∧ ∀ i, i < l.length → VR g (gt (cells0 K l) i) (l.getD i undef) := by
  have hv : ∀ v ∈ l, VR g (cV K v) v := fun v hv => (cV_ok h 0 0 v).cellB (List.all_eq_true.1 hb v hv)
  have hw : ∀ w ∈ l.map (cV K), w < 2 ^ 128 := fun w hw => by
    obtain ⟨v, hm, rfl⟩ := List.mem_map.1 hw
    exact (hv v hm).lt
  refine ⟨by have := rowN_lt _ hw; rwa [List.length_map] at this, fun i hi => ?_⟩
  rw [cells0, gt_rowN _ _ hw, List.getD_eq_getElem?_getD, List.getD_eq_getElem?_getD, List.getElem?_map, List.getElem?_eq_getElem hi]
  exact hv _ (List.getElem_mem hi)

section
variable {P : Program} {K : Kon} {o : Oper}

/-! ### stores -/
noncomputable def opSt (x y : Opd) (st : St) : RS :=
  sel (Nat.beq (Nat.mod (rd st.T x) 16) 5) (sel (Nat.blt (po (rd st.T x)) (pz (rd st.T x))) (sel (Nat.beq (gt st.M (ps (rd st.T x))) 0) .no (sel (cellB (rd st.T y))
    (fc (up st.M (Nat.add (ps (rd st.T x)) (po (rd st.T x))) 1 (rd st.T y)) fun M => .ok 0 (setM M st.nM st)) .no)) .no) .no

theorem opSt_ok {t : TypeId} {x y : Operand} {i : TypeInfo} (ho : o.op = .store t x y) (hi : P.info? t = some i) (h1' : i.size = 1) : OpV P K o (opSt (cOp K x) (cOp K y)) := fun g st a w z st' _ hh hy e => by
  unfold opSt at e
  obtain ⟨h1, e⟩ := sel_ok e
  obtain ⟨h2, e⟩ := sel_ok e
  obtain ⟨h3, e⟩ := sel_no e
  obtain ⟨h4, e⟩ := sel_ok e
  rw [fc_eq] at e
  injection e with e1 e2
  have h2 := blt_t h2
  have h3 := beq_f h3
  rw [nA] at e2
  obtain ⟨blk, base, room, a1, a2, a3, a4, a5, a6⟩ := (hy x (by simp [ho, Op.operands])).ptr (beq_t h1)
  have hv := (hy y (by simp [ho, Op.operands])).cellB h4
  have hlt := hv.lt
  obtain ⟨w', r1, r2, r3⟩ := hh.store P (o := po (rd st.T (cOp K x))) (n := 1) (cw := rd st.T (cOp K y)) a5 ⟨0, by omega, by rw [Nat.add_zero]; exact h3⟩ (by omega) hlt [a.eval y] rfl (fun i hi => by
    have : i = 0 := by omega
    subst this
    rw [gt_word _ hlt, if_pos rfl]; exact hv)
  have hc := cells_one hv.one
  subst e2
  refine ⟨g, w', undef, .inr ⟨?_, rfl⟩, ⟨r2, r3, Ext.refl _ _, by rw [← e1]; exact .unk _, rfl, rfl⟩, fun q => absurd q (by simp [ho, quietB])⟩
  simp [execOp, ho, a2, Instr.storeAt, Instr.sureAddr, storeVar, hc, run_siz hi, h1', r1]

/-- Aggregates as words: how many cells, from where. -/
theorem TR.agg' {g : Gh} {R nR w : Nat} {v : Value} (h : TR g R nR w v) (hm : w % 16 = 12) : ∃ vs, w = eAgg (sa w) (ln w) ∧ v = .agg vs ∧ ln w < 16777216 ∧ sa w < 4294967296 ∧ sa w + ln w ≤ nR ∧ vs.size = ln w ∧
    ∀ i, i < ln w → VR g (gt R (sa w + i)) (vs.getD i undef) := by
  obtain ⟨st, n, vs, rfl, e, h1, h2, h3, h4, h5⟩ := h.agg_inv hm
  have e1 : ln (eAgg st n) = n := by show eAgg st n / 16 % 16777216 = n; unfold eAgg; omega
  have e2 : sa (eAgg st n) = st := by show eAgg st n / 268435456 = st; unfold eAgg; omega
  rw [e1, e2]
  exact ⟨vs, rfl, e, h1, h2, h3, h4, h5⟩

noncomputable def opStA (n : Nat) (x y : Opd) (st : St) : RS :=
  sel (Nat.beq (Nat.mod (rd st.T x) 16) 5) (sel (Nat.ble (Nat.add (po (rd st.T x)) n) (pz (rd st.T x))) (sel (Nat.beq (gt st.M (ps (rd st.T x))) 0) .no
    (sel (Nat.beq (Nat.mod (rd st.T y) 16) 12) (sel (Nat.beq (ln (rd st.T y)) n)
      (fc (up st.M (Nat.add (ps (rd st.T x)) (po (rd st.T x))) n (ch st.R (sa (rd st.T y)) n)) fun M => .ok 0 (setM M st.nM st)) .no) .no)) .no) .no

theorem opStA_ok {t : TypeId} {x y : Operand} {i : TypeInfo} (ho : o.op = .store t x y) (hi : P.info? t = some i) (h0 : 0 < i.size) : OpV P K o (opStA i.size (cOp K x) (cOp K y)) := fun g st a w z st' _ hh hy e => by
  unfold opStA at e
  obtain ⟨h1, e⟩ := sel_ok e
  obtain ⟨h2, e⟩ := sel_ok e
  obtain ⟨h3, e⟩ := sel_no e
  obtain ⟨h4, e⟩ := sel_ok e
  obtain ⟨h5, e⟩ := sel_ok e
  rw [fc_eq] at e
  injection e with e1 e2
  have h2 := ble_t h2
  have h3 := beq_f h3
  have h5 := beq_t h5
  rw [nA] at e2 h2
  obtain ⟨blk, base, room, a1, a2, a3, a4, a5, a6⟩ := (hy x (by simp [ho, Op.operands])).ptr (beq_t h1)
  obtain ⟨vs, b1, b2, b3, b4, b5, b6, b7⟩ := (hy y (by simp [ho, Op.operands])).agg' (beq_t h4)
  obtain ⟨w', r1, r2, r3⟩ := hh.store P (o := po (rd st.T (cOp K x))) (n := i.size) (cw := ch st.R (sa (rd st.T (cOp K y))) i.size) a5 ⟨0, by omega, by rw [Nat.add_zero]; exact h3⟩ h2 (ch_lt _ _ _) vs.toList
    (by rw [Array.length_toList, b6, h5]) (fun j hj => by
    rw [gt_ch, if_pos hj, List.getD_eq_getElem?_getD, Array.getElem?_toList, ← Array.getD_eq_getD_getElem?]; exact b7 j (by omega))
  subst e2
  refine ⟨g, w', undef, .inr ⟨?_, rfl⟩, ⟨r2, r3, Ext.refl _ _, by rw [← e1]; exact .unk _, rfl, rfl⟩, fun q => absurd q (by simp [ho, quietB])⟩
  simp [execOp, ho, a2, b2, Instr.storeAt, Instr.sureAddr, storeVar, Value.cells, run_siz hi, b6, h5, r1]

/-! ### allocations -/
noncomputable def opAl (n cw : Nat) (st : St) : RS :=
  sel (Nat.blt st.nM 16777216) (fc (ad st.M st.nM cw) fun M => .ok (Nat.add (Nat.add 5 (Nat.mul 16 st.nM)) (Nat.mul 268435456 n)) (setM M (Nat.add (Nat.add st.nM n) 1) st)) .no

/-- A fresh variable. -/
theorem alloc_post {g : Gh} {st : St} {w : World} (hh : HR g st w) {c : Array Value} {t : TypeId} {cw z : Nat} {st' : St} (hn : c.size < 16777216) (hcw : cw < 2 ^ (128 * c.size)) (hv : ∀ i, i < c.size → VR g (gt cw i) (c.getD i undef))
    (e : opAl c.size cw st = .ok z st') : ∃ g' w' v, (newVar t (.agg c)).run P w = .ok v w' ∧ Post g st w g' st' w' z (.pointer (some v)) := by
  unfold opAl at e
  obtain ⟨h1, e⟩ := sel_ok e
  rw [fc_eq] at e
  injection e with e1 e2
  have h1 := blt_t h1
  simp only [nA, nM] at e1 e2
  obtain ⟨r1, r2⟩ := hh.alloc c t (0, 0) (Nat.le_refl _) hcw hv (fun i hi => (hv i hi).one) (.inl rfl)
  subst e2
  refine ⟨_, _, ⟨w.heap.size, 0, none⟩, ?_, ⟨r1, r2, Ext.refl _ _, ?_, rfl, rfl⟩⟩
  · simp [newVar, newRow, Value.cells]
  · have : z = ePtr st.nM c.size 0 := by rw [← e1]; rfl
    rw [this]
    exact .cell _ _ (.ptr st.nM c.size 0 w.heap.size 0 c.size h1 hn (by rw [Gh.put_rho, if_pos rfl]) (Nat.zero_le _))

theorem opAl_ok {t : TypeId} {i : TypeInfo} {z : Value} (ho : o.op = .alloc t) (hi : P.info? t = some i) (hz : i.zero = some z) (hb : cells0B K z.cells.toList = true) (hn : z.cells.size < 16777216) :
    OpV P K o (opAl z.cells.size (cells0 K z.cells.toList)) := fun g st a w x st' hk hh hy e => by
  obtain ⟨c1, c2⟩ := cells0_ok hk hb
  obtain ⟨g', w', v, r1, r2⟩ := alloc_post (P := P) hh (c := z.cells) (t := t) hn (by rwa [Array.length_toList] at c1) (fun i hi => by
    have := c2 i (by rwa [Array.length_toList])
    rwa [List.getD_eq_getElem?_getD, Array.getElem?_toList, ← Array.getD_eq_getD_getElem?] at this) e
  refine ⟨g', w', _, .inl ?_, r2, fun q => absurd q (by simp [ho, quietB])⟩
  have r1' : (newVar t z).run P w = .ok v w' := r1
  simp [execOp, ho, Instr.alloc, zeroValue, run_typ hi, hz, r1']

noncomputable def opBx (x : Opd) (st : St) : RS := sel (cellB (rd st.T x)) (opAl 1 (rd st.T x) st) .no
theorem opBx_ok {t : TypeId} {x : Operand} (ho : o.op = .box t x) : OpV P K o (opBx (cOp K x)) := fun g st a w z st' hk hh hy e => by
  unfold opBx at e
  obtain ⟨h1, e⟩ := sel_ok e
  have hv := (hy x (by simp [ho, Op.operands])).cellB h1
  have hc := cells_one hv.one
  obtain ⟨g', w', v, r1, r2⟩ := alloc_post (P := P) hh (c := #[a.eval x]) (t := t) (by simp) (by simpa using hv.lt) (fun i hi => by
    have : i = 0 := by simpa using hi
    subst this
    rw [gt_word _ hv.lt, if_pos rfl]; exact hv) e
  refine ⟨g', w', _, .inl ?_, r2, fun q => absurd q (by simp [ho, quietB])⟩
  have r1' : (newVar t (a.eval x)).run P w = .ok v w' := by unfold newVar at *; rw [hc]; exact r1
  simp [execOp, ho, Instr.box, r1']

noncomputable def opBxA (x : Opd) (st : St) : RS := sel (Nat.beq (Nat.mod (rd st.T x) 16) 12) (opAl (ln (rd st.T x)) (ch st.R (sa (rd st.T x)) (ln (rd st.T x))) st) .no
theorem opBxA_ok {t : TypeId} {x : Operand} (ho : o.op = .box t x) : OpV P K o (opBxA (cOp K x)) := fun g st a w z st' hk hh hy e => by
  unfold opBxA at e
  obtain ⟨h1, e⟩ := sel_ok e
  obtain ⟨vs, b1, b2, b3, b4, b5, b6, b7⟩ := (hy x (by simp [ho, Op.operands])).agg' (beq_t h1)
  rw [← b6] at e b3 b7
  obtain ⟨g', w', v, r1, r2⟩ := alloc_post (P := P) hh (c := vs) (t := t) b3 (ch_lt _ _ _) (fun i hi => by rw [gt_ch, if_pos hi]; exact b7 i hi) e
  refine ⟨g', w', _, .inl ?_, r2, fun q => absurd q (by simp [ho, quietB])⟩
  simp [execOp, ho, b2, Instr.box, r1]

/-! ### parts of rows -/
theorem get_getD {vs : Array Value} {j : Nat} (hj : j < vs.size) : vs[j]? = some (vs.getD j undef) := by
  rw [Array.getElem?_eq_getElem hj, Array.getD_eq_getD_getElem?, Array.getElem?_eq_getElem hj]; rfl
noncomputable def opEx (j : Nat) (x : Opd) (st : St) : RS :=
  sel (Nat.beq (Nat.mod (rd st.T x) 16) 13) (sel (Nat.blt j (ln (rd st.T x))) (.ok (gt st.R (Nat.add (sa (rd st.T x)) j)) st) .no) .no
theorem TR.tup' {g : Gh} {R nR w : Nat} {v : Value} (h : TR g R nR w v) (hm : w % 16 = 13) : ∃ vs, w = eTup (sa w) (ln w) ∧ v = .tuple vs ∧ ln w < 16777216 ∧ sa w < 4294967296 ∧ sa w + ln w ≤ nR ∧ vs.size = ln w ∧
    ∀ i, i < ln w → TR g R nR (gt R (sa w + i)) (vs.getD i undef) := by
  obtain ⟨st, n, vs, rfl, e, h1, h2, h3, h4, h5⟩ := h.tup_inv hm
  have e1 : ln (eTup st n) = n := by show eTup st n / 16 % 16777216 = n; unfold eTup; omega
  have e2 : sa (eTup st n) = st := by show eTup st n / 268435456 = st; unfold eTup; omega
  rw [e1, e2]
  exact ⟨vs, rfl, e, h1, h2, h3, h4, h5⟩
theorem opEx_ok {x : Operand} {j : Nat} (ho : o.op = .extract x j) : OpV P K o (opEx j (cOp K x)) := .pure fun g st a w z st' _ hh hy e => by
  unfold opEx at e
  obtain ⟨h1, e⟩ := sel_ok e
  obtain ⟨h2, e⟩ := sel_ok e
  injection e with e1 e2
  have h2 := blt_t h2
  rw [nA] at e1
  obtain ⟨vs, b1, b2, b3, b4, b5, b6, b7⟩ := (hy x (by simp [ho, Op.operands])).tup' (beq_t h1)
  refine ⟨e2.symm, vs.getD j undef, ?_, by rw [← e1]; exact b7 j h2⟩
  have hj : j < vs.size := by omega
  have := get_getD hj
  generalize vs.getD j undef = u at *
  simp [execOp, ho, b2, Instr.extract, this]

noncomputable def opFc (off : Nat) (x : Opd) (st : St) : RS :=
  sel (Nat.beq (Nat.mod (rd st.T x) 16) 12) (sel (Nat.blt off (ln (rd st.T x))) (.ok (gt st.R (Nat.add (sa (rd st.T x)) off)) st) .no) .no
noncomputable def opFa (off n : Nat) (x : Opd) (st : St) : RS :=
  sel (Nat.beq (Nat.mod (rd st.T x) 16) 12) (sel (Nat.ble (Nat.add off n) (ln (rd st.T x))) (sel (Nat.blt (Nat.add (sa (rd st.T x)) off) 4294967296) (.ok (Nat.add (Nat.add 12 (Nat.mul 16 n)) (Nat.mul 268435456 (Nat.add (sa (rd st.T x)) off))) st) .no) .no) .no

theorem part_cell {t : TypeId} {d : TypeDesc} (ht : P.underlying t = some d) (hd : aggB d = false) {vs : Array Value} {off : Nat} (h : off < vs.size) (w : World) : (part t vs off).run P w = .ok (vs.getD off undef) w := by
  have := get_getD h
  generalize vs.getD off undef = u at *
  simp [part, run_aggB ht, hd, this]
theorem part_agg {t : TypeId} {d : TypeDesc} {i : TypeInfo} (ht : P.underlying t = some d) (hd : aggB d = true) (hi : P.info? t = some i) (vs : Array Value) (off : Nat) (w : World) : (part t vs off).run P w = .ok (.agg (vs.extract off (off + i.size))) w := by
  simp [part, run_aggB ht, hd, run_siz hi]
theorem TR.view {g : Gh} {R nR s n m off : Nat} {vs : Array Value} (hm : m < 16777216) (hs : s + off < 4294967296) (hb : s + n ≤ nR) (hv : vs.size = n) (ho : off + m ≤ n) (h : ∀ i, i < n → VR g (gt R (s + i)) (vs.getD i undef)) :
    TR g R nR (eAgg (s + off) m) (.agg (vs.extract off (off + m))) := by
  refine .agg _ _ _ hm hs (by omega) (by simp; omega) fun i hi => ?_
  have := h (off + i) (by omega)
  rw [← Nat.add_assoc] at this
  have e : (vs.extract off (off + m)).getD i undef = vs.getD (off + i) undef := by
    rw [Array.getD_eq_getD_getElem?, Array.getD_eq_getD_getElem?, Array.getElem?_extract, if_pos (by omega)]
  rw [e]; exact this

theorem opFc_ok {t : TypeId} {x : Operand} {j : Nat} {fs : Array Field} {f : Field} {d : TypeDesc} (ho : o.op = .field t x j) (ht : P.underlying t = some (.struct fs)) (hf : fs[j]? = some f) (hu : P.underlying f.type = some d) (hd : aggB d = false) :
    OpV P K o (opFc f.offset (cOp K x)) := .pure fun g st a w z st' _ hh hy e => by
  unfold opFc at e
  obtain ⟨h1, e⟩ := sel_ok e
  obtain ⟨h2, e⟩ := sel_ok e
  injection e with e1 e2
  have h2 := blt_t h2
  rw [nA] at e1
  obtain ⟨vs, b1, b2, b3, b4, b5, b6, b7⟩ := (hy x (by simp [ho, Op.operands])).agg' (beq_t h1)
  refine ⟨e2.symm, vs.getD f.offset undef, ?_, by rw [← e1]; exact .cell _ _ (b7 _ h2)⟩
  simp [execOp, ho, b2, Instr.field, run_underlying ht, hf, asAgg, part_cell hu hd (show f.offset < vs.size by omega)]

theorem opFa_ok {t : TypeId} {x : Operand} {j : Nat} {fs : Array Field} {f : Field} {d : TypeDesc} {i : TypeInfo} (ho : o.op = .field t x j) (ht : P.underlying t = some (.struct fs)) (hf : fs[j]? = some f) (hu : P.underlying f.type = some d) (hd : aggB d = true)
    (hi : P.info? f.type = some i) (hn : i.size < 16777216) : OpV P K o (opFa f.offset i.size (cOp K x)) := .pure fun g st a w z st' _ hh hy e => by
  unfold opFa at e
  obtain ⟨h1, e⟩ := sel_ok e
  obtain ⟨h2, e⟩ := sel_ok e
  obtain ⟨h3, e⟩ := sel_ok e
  injection e with e1 e2
  have h2 := ble_t h2
  have h3 := blt_t h3
  simp only [nA, nM] at e1 h2 h3
  obtain ⟨vs, b1, b2, b3, b4, b5, b6, b7⟩ := (hy x (by simp [ho, Op.operands])).agg' (beq_t h1)
  refine ⟨e2.symm, .agg (vs.extract f.offset (f.offset + i.size)), ?_, ?_⟩
  · simp [execOp, ho, b2, Instr.field, run_underlying ht, hf, asAgg, part_agg hu hd hi]
  · have : z = eAgg (sa (rd st.T (cOp K x)) + f.offset) i.size := by rw [← e1]; rfl
    rw [this]
    exact TR.view hn h3 b5 b6 h2 b7

noncomputable def opIc (n size : Nat) (x y : Opd) (st : St) : RS :=
  sel (Nat.beq (Nat.mod (rd st.T x) 16) 12) (sel (isIx (rd st.T y)) (sel (Nat.blt (ixN (rd st.T y)) n) (sel (Nat.blt (Nat.mul (ixN (rd st.T y)) size) (ln (rd st.T x)))
    (.ok (gt st.R (Nat.add (sa (rd st.T x)) (Nat.mul (ixN (rd st.T y)) size))) st) .no) .no) .no) .no
noncomputable def opIa (n size : Nat) (x y : Opd) (st : St) : RS :=
  sel (Nat.beq (Nat.mod (rd st.T x) 16) 12) (sel (isIx (rd st.T y)) (sel (Nat.blt (ixN (rd st.T y)) n) (sel (Nat.ble (Nat.add (Nat.mul (ixN (rd st.T y)) size) size) (ln (rd st.T x))) (sel (Nat.blt (Nat.add (sa (rd st.T x)) (Nat.mul (ixN (rd st.T y)) size)) 4294967296)
    (.ok (Nat.add (Nat.add 12 (Nat.mul 16 size)) (Nat.mul 268435456 (Nat.add (sa (rd st.T x)) (Nat.mul (ixN (rd st.T y)) size)))) st) .no) .no) .no) .no) .no

theorem run_ixAgg {t e : TypeId} {n : Nat} {i : TypeInfo} (ht : P.underlying t = some (.array n e)) (hi : P.info? e = some i) (cs : Array Value) (k : IntKind) (j : Nat) (hj : j < n) (w : World) {v : Value} (h : (part e cs (j * i.size)).run P w = .ok v w) :
    (Instr.index t (.agg cs) (.int k (j : Int))).run P w = .ok v w := by
  have h1 : (0 : Int) ≤ (j : Int) ∧ (j : Int) < (n : Int) := by omega
  simp [Instr.index, asIntOf, run_underlying ht, run_siz hi, h]
  intro hc; omega

theorem opIc_ok {t e : TypeId} {x y : Operand} {n : Nat} {i : TypeInfo} {d : TypeDesc} (ho : o.op = .index t x y) (ht : P.underlying t = some (.array n e)) (hi : P.info? e = some i) (hu : P.underlying e = some d) (hd : aggB d = false) :
    OpV P K o (opIc n i.size (cOp K x) (cOp K y)) := .pure fun g st a w z st' _ hh hy e => by
  unfold opIc at e
  obtain ⟨h1, e⟩ := sel_ok e
  obtain ⟨h2, e⟩ := sel_ok e
  obtain ⟨h3, e⟩ := sel_ok e
  obtain ⟨h4, e⟩ := sel_ok e
  injection e with e1 e2
  have h3 := blt_t h3
  have h4 := blt_t h4
  simp only [nA, nM] at e1 h4
  obtain ⟨vs, b1, b2, b3, b4, b5, b6, b7⟩ := (hy x (by simp [ho, Op.operands])).agg' (beq_t h1)
  obtain ⟨k, c2⟩ := (hy y (by simp [ho, Op.operands])).ixN h2
  refine ⟨e2.symm, vs.getD (ixN (rd st.T (cOp K y)) * i.size) undef, ?_, by rw [← e1]; exact .cell _ _ (b7 _ h4)⟩
  have := run_ixAgg ht hi vs k _ h3 w (part_cell hu hd (show _ < vs.size by rw [b6]; exact h4) w)
  simp only [execOp, ho, b2, c2, Sem.run_bind, this, Result.andThen_ok]; rfl

theorem opIa_ok {t e : TypeId} {x y : Operand} {n : Nat} {i : TypeInfo} {d : TypeDesc} (ho : o.op = .index t x y) (ht : P.underlying t = some (.array n e)) (hi : P.info? e = some i) (hu : P.underlying e = some d) (hd : aggB d = true) (hn : i.size < 16777216) :
    OpV P K o (opIa n i.size (cOp K x) (cOp K y)) := .pure fun g st a w z st' _ hh hy e => by
  unfold opIa at e
  obtain ⟨h1, e⟩ := sel_ok e
  obtain ⟨h2, e⟩ := sel_ok e
  obtain ⟨h3, e⟩ := sel_ok e
  obtain ⟨h4, e⟩ := sel_ok e
  obtain ⟨h5, e⟩ := sel_ok e
  injection e with e1 e2
  have h3 := blt_t h3
  have h4 := ble_t h4
  have h5 := blt_t h5
  simp only [nA, nM] at e1 h4 h5
  obtain ⟨vs, b1, b2, b3, b4, b5, b6, b7⟩ := (hy x (by simp [ho, Op.operands])).agg' (beq_t h1)
  obtain ⟨k, c2⟩ := (hy y (by simp [ho, Op.operands])).ixN h2
  refine ⟨e2.symm, .agg (vs.extract (ixN (rd st.T (cOp K y)) * i.size) (ixN (rd st.T (cOp K y)) * i.size + i.size)), ?_, ?_⟩
  · have := run_ixAgg ht hi vs k _ h3 w (part_agg hu hd hi vs _ w)
    simp only [execOp, ho, b2, c2, Sem.run_bind, this, Result.andThen_ok]; rfl
  · have : z = eAgg (sa (rd st.T (cOp K x)) + ixN (rd st.T (cOp K y)) * i.size) i.size := by rw [← e1]; rfl
    rw [this]
    exact TR.view hn h5 b5 b6 h4 b7

/-! ### nil, closures, interfaces -/
noncomputable def opNil (x : Opd) (st : St) : RS := sel (Nat.beq (Nat.mod (rd st.T x) 16) 5) (.ok (rd st.T x) st) (sel (Nat.beq (Nat.mod (rd st.T x) 16) 10) (.ok (rd st.T x) st) (sel (Nat.beq (Nat.mod (rd st.T x) 16) 15) (.ok (rd st.T x) st) .no))
theorem opNil_ok {x : Operand} (ho : o.op = .nilCheck x) : OpV P K o (opNil (cOp K x)) := .pure fun g st a w z st' _ hh hy e => by
  unfold opNil at e
  have hx := hy x (by simp [ho, Op.operands])
  cases h1 : Nat.beq (Nat.mod (rd st.T (cOp K x)) 16) 5 with
  | true =>
    rw [h1, sel_true] at e
    injection e with e1 e2
    obtain ⟨blk, base, room, a1, a2, _⟩ := hx.ptr (beq_t h1)
    exact ⟨e2.symm, a.eval x, by simp [execOp, ho, a2], by rw [← e1]; exact hx⟩
  | false =>
    rw [h1, sel_false] at e
    cases h2 : Nat.beq (Nat.mod (rd st.T (cOp K x)) 16) 10 with
    | true =>
      rw [h2, sel_true] at e
      injection e with e1 e2
      have h2 : rd st.T (cOp K x) % 16 = 10 := beq_t h2
      obtain ⟨f, m, n, s, ws, fi, ca, a1, a2, _⟩ := (hx.cell_inv (by omega) (by omega) (by omega) (by omega)).func_inv h2
      exact ⟨e2.symm, a.eval x, by simp [execOp, ho, a2], by rw [← e1]; exact hx⟩
    | false =>
      rw [h2, sel_false] at e
      obtain ⟨h3, e⟩ := sel_ok e
      injection e with e1 e2
      have h3 : rd st.T (cOp K x) % 16 = 15 := beq_t h3
      obtain ⟨f, a1, a2, _⟩ := (hx.cell_inv (by omega) (by omega) (by omega) (by omega)).fn0_inv h3
      exact ⟨e2.symm, a.eval x, by simp [execOp, ho, a2], by rw [← e1]; exact hx⟩

/-- A row of words that stays, of operands. -/
noncomputable def rds (T : Nat) (l : List Opd) : List Nat := l.map (rd T)
noncomputable def opFn (f m n : Nat) (l : List Opd) (st : St) : RS :=
  sel (l.all fun x => cellB (rd st.T x)) (sel (Nat.blt st.nM 16777216) (fc (ad st.M st.nM (rowN (rds st.T l))) fun M =>
    .ok (Nat.add (Nat.add (Nat.add (Nat.add 10 (Nat.mul 16 f)) (Nat.mul 1048576 m)) (Nat.mul 268435456 n)) (Nat.mul 68719476736 st.nM)) (setM M (Nat.add (Nat.add st.nM (Nat.add m n)) 1) st)) .no) .no

theorem rds_getD (T : Nat) (l : List Opd) (i : Nat) (h : i < l.length) : (rds T l).getD i 0 = rd T l[i] := by
  simp [rds, List.getD_eq_getElem?_getD, List.getElem?_eq_getElem h]

theorem opFn_ok {f : Nat} {first captured : Array Operand} (ho : o.op = .makeFunc (.func f) first captured) (hf : f < 65536) (hm : first.size < 256) (hn : captured.size < 256) :
    OpV P K o (opFn f first.size captured.size (first.toList.map (cOp K) ++ captured.toList.map (cOp K))) := fun g st a w z st' hk hh hy e => by
  unfold opFn at e
  obtain ⟨h1, e⟩ := sel_ok e
  obtain ⟨h2, e⟩ := sel_ok e
  rw [fc_eq] at e
  injection e with e1 e2
  have h2 := blt_t h2
  simp only [nA, nM] at e1 e2
  rw [List.all_eq_true] at h1
  have hlen : (rds st.T (first.toList.map (cOp K) ++ captured.toList.map (cOp K))).length = first.size + captured.size := by simp [rds]
  have hv : ∀ x, x ∈ first ∨ x ∈ captured → VR g (rd st.T (cOp K x)) (a.eval x) := fun x hx => (hy x (by simpa [ho, Op.operands] using hx)).cellB (h1 _ (by
    rcases hx with hx | hx
    · exact List.mem_append.2 (.inl (List.mem_map.2 ⟨x, by simpa using hx, rfl⟩))
    · exact List.mem_append.2 (.inr (List.mem_map.2 ⟨x, by simpa using hx, rfl⟩))))
  have hw : ∀ w ∈ rds st.T (first.toList.map (cOp K) ++ captured.toList.map (cOp K)), w < 2 ^ 128 := fun w hm' => by
    simp only [rds, List.map_append, List.map_map, List.mem_append, List.mem_map, Function.comp] at hm'
    rcases hm' with ⟨x, hx, rfl⟩ | ⟨x, hx, rfl⟩
    · exact (hv x (.inl (by simpa using hx))).lt
    · exact (hv x (.inr (by simpa using hx))).lt
  obtain ⟨r1, r2⟩ := hh.row _ (rowN_lt _ hw) (fun i hi => gt_rowN _ i hw)
  rw [hlen] at r1
  subst e2
  refine ⟨_, w, .func (.func f) (first.map a.eval) (captured.map a.eval), .inl ?_, ⟨r1, r2, Ext.refl _ _, ?_, rfl, rfl⟩, fun _ => .inl rfl⟩
  · simp [execOp, ho, Instr.makeFunc]
  · have : z = eFun f first.size captured.size st.nM := by rw [← e1]; rfl
    rw [this]
    refine .cell _ _ (.func f _ _ st.nM _ _ _ hf hm hn h2 (by rw [Gh.put_rho, if_pos rfl]) (by simp) (by simp) hlen (fun i hi => ?_) (fun i hi => ?_))
    · refine VR.mono r2.le ?_
      rw [rds_getD _ _ _ (by simp; omega), List.getElem_append_left (by simpa using hi), List.getElem_map]
      have e : (first.map a.eval).getD i undef = a.eval first[i] := by simp [Array.getD_eq_getD_getElem?, hi]
      rw [e, Array.getElem_toList]
      exact hv _ (.inl (Array.getElem_mem hi))
    · refine VR.mono r2.le ?_
      rw [rds_getD _ _ _ (by simp; omega), List.getElem_append_right (by simp), List.getElem_map]
      have e : (captured.map a.eval).getD i undef = a.eval captured[i] := by simp [Array.getD_eq_getD_getElem?, hi]
      rw [e]
      simp only [List.length_map, Array.length_toList, Nat.add_sub_cancel_left, Array.getElem_toList]
      exact hv _ (.inr (Array.getElem_mem hi))

noncomputable def opIf (t : Nat) (x : Opd) (st : St) : RS :=
  sel (cellB (rd st.T x)) (sel (Nat.blt st.nM 16777216) (fc (ad st.M st.nM (rowN [rd st.T x])) fun M => .ok (Nat.add (Nat.add 11 (Nat.mul 16 t)) (Nat.mul 68719476736 st.nM)) (setM M (Nat.add (Nat.add st.nM 1) 1) st)) .no) .no
theorem opIf_ok {t : TypeId} {x : Operand} {d : TypeDesc} (ho : o.op = .makeInterface t x) (ht : P.underlying t = some d) (hd : ∀ ms, d ≠ .interface ms) (hl : t < 1048576) : OpV P K o (opIf t (cOp K x)) := fun g st a w z st' hk hh hy e => by
  unfold opIf at e
  obtain ⟨h1, e⟩ := sel_ok e
  obtain ⟨h2, e⟩ := sel_ok e
  rw [fc_eq] at e
  injection e with e1 e2
  have h2 := blt_t h2
  simp only [nA, nM] at e1 e2
  have hv := (hy x (by simp [ho, Op.operands])).cellB h1
  have h0 : rd st.T (cOp K x) ≠ 0 := fun hc => by rw [hc] at h1; exact absurd h1 (by decide)
  have hw : ∀ w ∈ [rd st.T (cOp K x)], w < 2 ^ 128 := fun w hm => by
    rw [List.mem_singleton] at hm; subst hm; exact hv.lt
  obtain ⟨r1, r2⟩ := hh.row _ (rowN_lt _ hw) (fun i hi => gt_rowN _ i hw)
  subst e2
  refine ⟨_, w, .iface t (a.eval x), .inl ?_, ⟨r1, r2, Ext.refl _ _, ?_, rfl, rfl⟩, fun _ => .inl rfl⟩
  · cases d <;> first | (exact absurd rfl (hd _)) | simp [execOp, ho, Instr.makeInterface, run_underlying ht]
  · have : z = eIfc t st.nM := by rw [← e1]; rfl
    rw [this]
    exact .cell _ _ (.ifc t st.nM _ _ hl h2 (by rw [Gh.put_rho, if_pos rfl]) (hv.mono r2.le) h0)

end
end Ev
end Go.Proofs.YtgdibfnpkcdiiaaGreatDoor
