/- Copying, conversions of bytes and strings, comparisons with nil and of pointers, the greater and the less of two. No condition. -/
import Derived.Test.YtgdibfnpkcdiiaaGreatDoorEvO
import Derived.Laws.IdiomStrings
namespace Go.Proofs.YtgdibfnpkcdiiaaGreatDoor
namespace Ev

section
variable {P : Program} {K : Kon} {o : Oper}

/-! ### copy -/
noncomputable def lesser (a b : Nat) : Nat := sel (Nat.ble a b) a b
theorem lesser_eq (a b : Nat) : lesser a b = min a b := by
  unfold lesser
  cases h : Nat.ble a b with
  | true => have := ble_t h; rw [sel_true]; omega
  | false =>
    have : ¬ a ≤ b := fun hc => by rw [Nat.ble_eq_true_of_le hc] at h; cases h
    rw [sel_false]; omega

noncomputable def opCpy (size : Nat) (d x : Opd) (st : St) : RS :=
  sel (Nat.beq (rd st.T x) 6) (sel (slB (rd st.T d)) (.ok 2361183241434822606898 st) .no)
    (sel (Nat.beq (Nat.mod (rd st.T d) 16) 7) (sel (Nat.beq (se (rd st.T d)) size) (sel (Nat.beq (Nat.mod (rd st.T x) 16) 7) (sel (Nat.beq (se (rd st.T x)) size)
      (fc (lesser (sl (rd st.T x)) (sl (rd st.T d))) fun n => sel (Nat.beq n 0) (.ok 2361183241434822606898 st) (sel (Nat.beq (pz (rd st.T d)) 0) .no (sel (Nat.beq (gt st.M (ps (rd st.T d))) 0) .no
        (fc (up st.M (Nat.add (ps (rd st.T d)) (so (rd st.T d))) (Nat.mul n size) (ch st.M (Nat.add (ps (rd st.T x)) (so (rd st.T x))) (Nat.mul n size))) fun M =>
          .ok (Nat.add 2361183241434822606898 (Nat.mul 256 n)) (setM M st.nM st))))) .no) .no) .no) .no)

theorem run_cpy {t u el : TypeId} {q : TypeInfo} (ht : P.underlying t = some (.slice el)) (hq : P.info? el = some q) (ty : TypeId) {b x : Option Addr} {l c l' c' n : Nat} {w w' : World} {cs : Array Value} (hn : Nat.min l' l = n)
    (hf : (Builtin.firstCells q.size n (.slice x l' c')).run P w = .ok cs w) (hst : ∀ a, b = some a → (storeCells a cs.toList).run P w = .ok () w') (hno : b = none → w' = w) :
    (Builtin.copy_ #[t, u] ty #[.slice b l c, .slice x l' c']).run P w = .ok (goInt n) w' := by
  cases b with
  | none => have := hno rfl; subst this; simp [Builtin.copy_, run_underlying ht, Builtin.lenOf, run_siz hq, hn, hf]
  | some a => simp [Builtin.copy_, run_underlying ht, Builtin.lenOf, run_siz hq, hn, hf, hst a rfl]

theorem opCpy_ok {t u el : TypeId} {d x : Operand} {q : TypeInfo} (ho : o.op = .call { callee := .builtin .copy, args := #[d, x], argTypes := #[t, u] }) (ht : P.underlying t = some (.slice el)) (hq : P.info? el = some q) (_h0 : 0 < q.size) :
    OpV P K o (opCpy q.size (cOp K d) (cOp K x)) := fun g st a w z st' hk hh hy e => by
  unfold opCpy at e
  have hvd := hy d (by simp [ho, Op.operands, Call.operands])
  have hvx := hy x (by simp [ho, Op.operands, Call.operands])
  have run : ∀ {v : Value} {w' : World}, (Builtin.copy_ #[t, u] o.type #[a.eval d, a.eval x]).run P w = .ok v w' → (execOp a.eval o).run P w = .ok (.value v) w' := fun h => by
    simp [execOp, ho, resolve, invoke, builtin, h]
  have none_ : ∀ (b x' : Option Addr) (l c l' c' : Nat), a.eval d = .slice b l c → a.eval x = .slice x' l' c' → Nat.min l' l = 0 → (execOp a.eval o).run P w = .ok (.value (goInt (0 : Nat))) w := fun b x' l c l' c' h1 h2 h3 => by
    refine run ?_
    rw [h1, h2]
    refine run_cpy (P := P) ht hq o.type (cs := #[]) h3 ?_ (fun _ _ => rfl) (fun _ => rfl)
    cases x' with
    | none => rfl
    | some ad => rw [Builtin.firstCells, Nat.zero_mul]; rfl
  have z0 : TR g st.R st.nR 2361183241434822606898 (goInt (0 : Nat)) := by rw [i64_zero]; exact .cell _ _ (.int _ _ (by decide) (by decide))
  cases h1 : Nat.beq (rd st.T (cOp K x)) 6 with
  | true =>
    rw [h1, sel_true] at e
    obtain ⟨h2, e⟩ := sel_ok e
    injection e with e1 e2
    have vx := hvx.nil (beq_t h1)
    subst e2
    have key : ∀ (b : Option Addr) (l c : Nat), a.eval d = .slice b l c → (execOp a.eval o).run P w = .ok (.value (goInt (0 : Nat))) w := fun b l c hv => none_ _ _ _ _ _ _ hv vx (Nat.min_eq_left (Nat.zero_le _))
    refine ⟨g, w, _, .inl ?_, by rw [← e1]; exact .same hh z0, fun q => absurd q (by simp [ho, quietB])⟩
    unfold slB at h2
    cases h3 : Nat.beq (Nat.mod (rd st.T (cOp K d)) 16) 7 with
    | true =>
      obtain ⟨blk, base, room, cap, ad, a1, a2, _⟩ := hvd.sli (beq_t h3)
      exact key _ _ _ a2
    | false =>
      rw [h3, sel_false] at h2
      cases h4 : Nat.beq (rd st.T (cOp K d)) 6 with
      | true => exact key _ _ _ (hvd.nil (beq_t h4))
      | false =>
        rw [h4, sel_false] at h2
        obtain ⟨ad, a2⟩ := hvd.emp (beq_t h2)
        exact key _ _ _ a2
  | false =>
    rw [h1, sel_false] at e
    obtain ⟨h2, e⟩ := sel_ok e
    obtain ⟨h3, e⟩ := sel_ok e
    obtain ⟨h4, e⟩ := sel_ok e
    obtain ⟨h5, e⟩ := sel_ok e
    rw [fc_eq] at e
    have h3 := beq_t h3
    have h5 := beq_t h5
    obtain ⟨blk, base, room, cap, ad, a1, a2, a3, a4, a5, a6, a7, a8, a9, a10⟩ := hvd.sli (beq_t h2)
    obtain ⟨blk', base', room', cap', ad', b1, b2, b3, b4, b5, b6, b7, b8, b9, b10⟩ := hvx.sli (beq_t h4)
    rw [h3] at a8 a10
    rw [h5] at b8 b10
    have hn : Nat.min (sl (rd st.T (cOp K x))) (sl (rd st.T (cOp K d))) = lesser (sl (rd st.T (cOp K x))) (sl (rd st.T (cOp K d))) := (lesser_eq _ _).symm
    have hle1 : lesser (sl (rd st.T (cOp K x))) (sl (rd st.T (cOp K d))) ≤ sl (rd st.T (cOp K x)) := by rw [lesser_eq]; omega
    have hle2 : lesser (sl (rd st.T (cOp K x))) (sl (rd st.T (cOp K d))) ≤ sl (rd st.T (cOp K d)) := by rw [lesser_eq]; omega
    generalize lesser (sl (rd st.T (cOp K x))) (sl (rd st.T (cOp K d))) = n at *
    cases h6 : Nat.beq n 0 with
    | true =>
      rw [h6, sel_true] at e
      injection e with e1 e2
      subst e2
      have h6 := beq_t h6
      rw [h6] at hn
      exact ⟨g, w, _, .inl (none_ _ _ _ _ _ _ a2 b2 hn), by rw [← e1]; exact .same hh z0, fun q => absurd q (by simp [ho, quietB])⟩
    | false =>
      rw [h6, sel_false] at e
      obtain ⟨h7, e⟩ := sel_no e
      obtain ⟨h8, e⟩ := sel_no e
      rw [fc_eq] at e
      injection e with e1 e2
      have h6 := beq_f h6
      have h7 := beq_f h7
      have h8 := beq_f h8
      simp only [nA, nM] at e1 e2
      obtain ⟨cs, c1, c2, c3⟩ := sli_cells (P := P) hh b7 b8 b9 b10 hle1
      obtain ⟨rfl, hrm⟩ := a10.resolve_left (by omega)
      have hm : n * q.size ≤ sl (rd st.T (cOp K d)) * q.size := Nat.mul_le_mul_right _ hle2
      obtain ⟨w', r1, r2, r3⟩ := hh.store P (o := so (rd st.T (cOp K d))) (n := n * q.size) (cw := ch st.M (ps (rd st.T (cOp K x)) + so (rd st.T (cOp K x))) (n * q.size)) a7 ⟨0, Nat.pos_of_ne_zero h7, by rw [Nat.add_zero]; exact h8⟩ (by omega) (ch_lt _ _ _) cs.toList
        (by rw [Array.length_toList, c1]) (fun j hj => by
          have := c3 j hj
          rwa [List.getD_eq_getElem?_getD, Array.getElem?_toList, ← Array.getD_eq_getD_getElem?])
      subst e2
      refine ⟨g, w', goInt n, .inl (run ?_), ⟨r2, r3, Ext.refl _ _, ?_, rfl, rfl⟩, fun q => absurd q (by simp [ho, quietB])⟩
      · rw [a2, b2]
        exact run_cpy (P := P) ht hq o.type hn (c2 w rfl) (fun a' ha => by injection ha with ha; subst ha; exact r1) (fun h => by cases h)
      · rw [← e1, ← eInt_i64]
        exact .cell _ _ (.int _ _ (by omega) (by omega))

/-! ### conversions -/
noncomputable def opS2B (x : Opd) (st : St) : RS :=
  sel (Nat.beq (Nat.mod (rd st.T x) 16) 3) (newSl (ln (rd st.T x)) 1 st.M (strRow st.S (sa (rd st.T x)) (ln (rd st.T x))) st) .no
theorem opS2B_ok {s d el : TypeId} {x : Operand} (ho : o.op = .convert s d x) (hs : P.underlying s = some .string) (hd : P.underlying d = some (.slice el)) (he : P.underlying el = some (.int .u8)) : OpV P K o (opS2B (cOp K x)) := fun g st a w z st' hk hh hy e => by
  unfold opS2B at e
  obtain ⟨h1, e⟩ := sel_ok e
  obtain ⟨a1, a2, a3, a4, a5⟩ := (hy x (by simp [ho, Op.operands])).str (beq_t h1)
  obtain ⟨r1, r2⟩ := strRow_ok g st.S (sa (rd st.T (cOp K x))) (ln (rd st.T (cOp K x)))
  have hrun := run_bytes_of_string w s d el (strOf g.S (sa (rd st.T (cOp K x))) (ln (rd st.T (cOp K x)))) hs hd he
  rw [strOf_size] at hrun
  have hge := grownCap_ge w (ln (rd st.T (cOp K x))) 0 el
  generalize grownCap w (ln (rd st.T (cOp K x))) 0 el = cap at *
  have hcs : ((strOf g.S (sa (rd st.T (cOp K x))) (ln (rd st.T (cOp K x)))).data.map fun b => Value.int .u8 b.toNat).size = ln (rd st.T (cOp K x)) := by
    have := strOf_size g.S (sa (rd st.T (cOp K x))) (ln (rd st.T (cOp K x)))
    rw [Array.size_map]; exact this
  have hbr : (bytesRow (strOf g.S (sa (rd st.T (cOp K x))) (ln (rd st.T (cOp K x)))) cap).size = cap := by
    unfold bytesRow; rw [Array.size_append, hcs, Array.size_replicate, strOf_size]; omega
  obtain ⟨g', hp⟩ := fresh_post (el := el) (cap := cap) (cs := (strOf g.S (sa (rd st.T (cOp K x))) (ln (rd st.T (cOp K x)))).data.map fun b => Value.int .u8 b.toNat) (rest := Array.replicate (cap - ln (rd st.T (cOp K x))) (.int .u8 0)) st.M hh e (by decide)
    (by rw [hcs, Nat.mul_one]) (by rw [Nat.mul_one]; exact r1) (fun j hj => by
      rw [Nat.mul_one] at hj
      have := r2 j hj
      rw [hh.S] at this
      have hv : ((strOf g.S (sa (rd st.T (cOp K x))) (ln (rd st.T (cOp K x)))).data.map fun b => Value.int .u8 b.toNat).getD j undef = .int .u8 (byteAt g.S (sa (rd st.T (cOp K x)) + j) : Nat) := by
        rw [Array.getD_eq_getD_getElem?, Array.getElem?_map, ← Array.getElem?_toList, strOf_data, List.getElem?_map, List.getElem?_range hj]
        simp only [Option.map_some, Option.getD_some, byte_toNat]
      rw [hv, hh.S]; exact this) hge (by rw [Array.size_replicate, Nat.mul_one]) (fun i hi => by
      rw [Array.size_replicate] at hi
      simp [Array.getD_eq_getD_getElem?, hi, Value.oneCell'])
    ((bytesRow (strOf g.S (sa (rd st.T (cOp K x))) (ln (rd st.T (cOp K x)))) cap).size, (bytesRow (strOf g.S (sa (rd st.T (cOp K x))) (ln (rd st.T (cOp K x)))) cap).size + 1) (.inr (by rw [hbr, Array.size_append, hcs, Array.size_replicate]; show _ ≤ cap; omega))
  refine ⟨g', _, _, .inl ?_, hp, fun q => absurd q (by simp [ho, quietB, hd])⟩
  simp only [execOp, ho, a2, Sem.run_bind, hrun, Result.andThen_ok, Sem.run_pure]
  unfold bytesRow
  rw [strOf_size]

/-- '[]byte("..")' of a constant: a row's mark. -/
theorem HR.mark {g : Gh} {st : St} {w : World} (h : HR g st w) {s blk base z room : Nat} (hr : g.rho s = .cells blk base z room) {c : Array Value} {e : TypeId} {fr : Nat × Nat} (hb : w.heap[blk]? = some (.cells c e fr)) (fr' : Nat × Nat) (hfr : Thaw fr c.size → Thaw fr' c.size)
    {w' : World} (hw : w'.heap = w.heap.setIfInBounds blk (.cells c e fr')) (ho : w'.os = w.os ∧ w'.tape = w.tape ∧ w'.output = w.output) : HR g st w' ∧ Fr g w g w' := by
  have hlt := (Array.getElem?_eq_some_iff.1 hb).1
  have old : ∀ b, b ≠ blk → w'.heap[b]? = w.heap[b]? := fun b hne => by rw [hw, Array.getElem?_setIfInBounds, if_neg (Ne.symm hne)]
  have new : w'.heap[blk]? = some (.cells c e fr') := by rw [hw, Array.getElem?_setIfInBounds, if_pos rfl, if_pos hlt]
  refine ⟨⟨h.S, h.nS, h.Slt, h.Mlt, h.Rlt, h.top, h.disj, fun s' b' ba z' r hs => ?_, h.rows, fun s' b hs => ?_, h.inj, h.minj⟩, ⟨ho.1, ho.2.1, ho.2.2, by rw [hw]; simp, Gh.le.refl _, fun b _ hn => old b (fun eb => hn (by subst eb; exact .inl ⟨s, base, z, room, hr⟩)), fun _ _ h => h⟩⟩
  · obtain ⟨c2, e2, fr2, hc⟩ := h.cells s' b' ba z' r hs
    by_cases eb : b' = blk
    · subst eb
      have h12 : c2 = c ∧ e2 = e ∧ fr2 = fr := by have := hc.heap.symm.trans hb; injection this with this; injection this with a b d; exact ⟨a, b, d⟩
      obtain ⟨rfl, rfl, rfl⟩ := h12
      exact ⟨c2, e2, fr', new, hc.size, hc.room, hc.one, hc.vr, fun hl => hfr (hc.thaw hl)⟩
    · exact ⟨c2, e2, fr2, by rw [old b' eb]; exact hc.heap, hc.size, hc.room, hc.one, hc.vr, hc.thaw⟩
  · obtain ⟨x, hx, hm⟩ := h.maps s' b hs
    refine ⟨x, ?_, hm⟩
    rw [old b (fun eb => ?_)]
    · exact hx
    · subst eb; rw [hb] at hx; injection hx with hx; subst hx
      obtain ⟨_, _, _, _, _, _, _, _, _, _, _, h6, _⟩ := hm
      cases h6

noncomputable def opMrk (x : Opd) (st : St) : RS := sel (Nat.beq (Nat.mod (rd st.T x) 16) 7) (sel (Nat.blt 0 (sl (rd st.T x))) (.ok (rd st.T x) st) .no) .no
theorem opMrk_ok {s el : TypeId} {x : Operand} (ho : o.op = .convert s s x) (hs : P.underlying s = some (.slice el)) (he : P.underlying el = some (.int .u8)) : OpV P K o (opMrk (cOp K x)) := fun g st a w z st' hk hh hy e => by
  unfold opMrk at e
  obtain ⟨h1, e⟩ := sel_ok e
  obtain ⟨h2, e⟩ := sel_ok e
  injection e with e1 e2
  have h2 := blt_t h2
  have hx := hy x (by simp [ho, Op.operands])
  obtain ⟨blk, base, room, cap, ad, a1, a2, a3, a4, a5, a6, a7, a8, a9, a10⟩ := hx.sli (beq_t h1)
  obtain ⟨rfl, hrm⟩ := a10.resolve_left (by omega)
  obtain ⟨c, ct, fr, hc⟩ := hh.cells _ _ _ _ _ a7
  subst e2
  have hlt := (Array.getElem?_eq_some_iff.1 hc.heap).1
  have hsh : w.shape? blk = some (ct, c.size) := by unfold World.shape?; rw [hc.heap]
  obtain ⟨fr1, fr2⟩ := fr
  have hfz : w.freeze ⟨blk, c.size, none⟩ 1 = { w with heap := w.heap.setIfInBounds blk (.cells c ct (if fr1 == fr2 then (c.size, c.size + 1) else (min fr1 c.size, max fr2 (c.size + 1)))) } := by
    unfold World.freeze
    rw [if_neg (by decide)]
    congr 1
    apply Array.ext_getElem?
    intro i
    rw [Array.getElem?_modify, Array.getElem?_setIfInBounds]
    by_cases hi : blk = i
    · subst hi
      rw [if_pos rfl, if_pos rfl, if_pos hlt, hc.heap]; rfl
    · rw [if_neg hi, if_neg hi]
  obtain ⟨r1, r2⟩ := hh.mark a7 hc.heap (if fr1 == fr2 then (c.size, c.size + 1) else (min fr1 c.size, max fr2 (c.size + 1))) (fun ht => by
    rcases ht with ht | ht
    · dsimp only at ht; subst ht; rw [if_pos (by simp)]; exact .inr (Nat.le_refl _)
    · dsimp only at ht
      split
      · exact .inr (Nat.le_refl _)
      · exact .inr (by show c.size ≤ min fr1 c.size; omega)) (w' := w.freeze ⟨blk, c.size, none⟩ 1) (by rw [hfz]) (by rw [hfz]; exact ⟨rfl, rfl, rfl⟩)
  refine ⟨g, w.freeze ⟨blk, c.size, none⟩ 1, a.eval x, .inl ?_, ⟨r1, r2, Ext.refl _ _, by rw [← e1]; exact hx, rfl, rfl⟩, fun q => absurd q (by simp [ho, quietB, hs])⟩
  simp [execOp, ho, a2, convert, run_underlying hs, run_underlying he, markStringish, hsh]

/-- Bytes of a row of words. -/
noncomputable def rowB (c n : Nat) : Bool := (List.range n).all fun i => sel (Nat.beq (Nat.mod (gt c i) 256) 66) (sel (Nat.ble 9223372036854775808 (Nat.div (gt c i) 256)) (Nat.blt (ixN (gt c i)) 256) false) false
noncomputable def rowS (c n : Nat) : Nat := (List.range n).foldr (fun i m => Nat.add (ixN (gt c i)) (Nat.mul 256 m)) 0

theorem rowB_ok {c n i : Nat} (h : rowB c n = true) (hi : i < n) : gt c i % 256 = 66 ∧ 9223372036854775808 ≤ gt c i / 256 ∧ ixN (gt c i) < 256 := by
  have h := List.all_eq_true.1 h i (List.mem_range.2 hi)
  cases h1 : Nat.beq (Nat.mod (gt c i) 256) 66 with
  | false => rw [h1] at h; cases h
  | true =>
    rw [h1, sel_true] at h
    cases h2 : Nat.ble 9223372036854775808 (Nat.div (gt c i) 256) with
    | false => rw [h2] at h; cases h
    | true =>
      rw [h2, sel_true] at h
      exact ⟨beq_t h1, ble_t h2, blt_t h⟩
theorem u8_inv {g : Gh} {w : Nat} {v : Value} (h : VR g w v) (hm : w % 256 = 66) (hb : 9223372036854775808 ≤ w / 256) : v = .int .u8 (ixN w : Nat) := by
  obtain ⟨k, hk⟩ := (TR.cell (g := g) (R := 0) (nR := 0) w v h).ix (by omega) hb
  obtain ⟨n, e1, e2, _⟩ := (TR.cell (g := g) (R := 0) (nR := 0) w v h).int (k := .u8) hm
  rw [e2] at hk
  injection hk with h1 h2
  subst h1
  rw [e2, h2]; rfl
theorem rowS_eq (c n : Nat) (h : rowB c n = true) : rowS c n = bytesNat ((List.range n).map fun i => UInt8.ofNat (ixN (gt c i))) := by
  unfold rowS bytesNat
  rw [List.foldr_map]
  have : ∀ l : List Nat, (∀ i ∈ l, ixN (gt c i) < 256) → l.foldr (fun i m => Nat.add (ixN (gt c i)) (Nat.mul 256 m)) 0 = l.foldr (fun i m => (UInt8.ofNat (ixN (gt c i))).toNat + 256 * m) 0 := by
    intro l
    induction l with
    | nil => intro _; rw [List.foldr_nil, List.foldr_nil]
    | cons i l ih =>
      intro hl
      rw [List.foldr_cons, List.foldr_cons, ih (fun j hj => hl j (by simp [hj])), UInt8.toNat_ofNat']
      have := hl i (by simp)
      rw [nA, nM, Nat.mod_eq_of_lt this]
  exact this _ fun i hi => (rowB_ok h (List.mem_range.1 hi)).2.2

noncomputable def opB2S (x : Opd) (st : St) : RS :=
  sel (Nat.beq (rd st.T x) 6) (.ok 3 st) (sel (Nat.beq (rd st.T x) 57) (.ok 3 st)
    (sel (Nat.beq (Nat.mod (rd st.T x) 16) 7) (sel (Nat.beq (se (rd st.T x)) 1) (sel (Nat.blt st.nS 4294967296)
      (fc (ch st.M (Nat.add (ps (rd st.T x)) (so (rd st.T x))) (sl (rd st.T x))) fun c => sel (rowB c (sl (rd st.T x)))
        (fc (adS st.S st.nS (rowS c (sl (rd st.T x)))) fun S => .ok (eStr st.nS (sl (rd st.T x))) (setS S (Nat.add st.nS (sl (rd st.T x))) st)) .no) .no) .no) .no))

theorem bytesNat_lt : ∀ l : List UInt8, bytesNat l < 2 ^ (8 * l.length)
  | [] => Nat.two_pow_pos _
  | b :: l => by
    have ih := bytesNat_lt l
    have hb : b.toNat < 256 := b.toNat_lt
    have e : bytesNat (b :: l) = b.toNat + 256 * bytesNat l := rfl
    rw [e, List.length_cons, show 8 * (l.length + 1) = 8 + 8 * l.length by omega, Nat.pow_add]
    have : (2 : Nat) ^ 8 = 256 := by decide
    rw [this]
    omega

theorem empty_str (S : Nat) : strOf S 0 0 = ByteArray.empty := by
  apply ByteArray.ext; apply Array.ext'; rw [strOf_data]; rfl

theorem opB2S_ok {s d el : TypeId} {x : Operand} (ho : o.op = .convert s d x) (hs : P.underlying s = some (.slice el)) (he : P.underlying el = some (.int .u8)) (hd : P.underlying d = some .string) : OpV P K o (opB2S (cOp K x)) := fun g st a w z st' hk hh hy e => by
  unfold opB2S at e
  have hx := hy x (by simp [ho, Op.operands])
  have emp : ∀ b : Option Addr, a.eval x = .slice b 0 0 → (execOp a.eval o).run P w = .ok (.value (.string (strOf g.S 0 0))) w := fun b hv => by
    rw [empty_str]
    simp only [execOp, ho, hv, Sem.run_bind, run_convert_bytes_string w s d el b 0 0 hs he hd]
    cases b with
    | none => rfl
    | some ad => simp [Conv.bytesToString, loadCells, loadCellsFrom]
  have t0 : TR g st.R st.nR 3 (.string (strOf g.S 0 0)) := .cell _ _ (VR.str (g := g) 0 0 (by decide) (Nat.zero_le _) (by decide))
  cases h1 : Nat.beq (rd st.T (cOp K x)) 6 with
  | true =>
    rw [h1, sel_true] at e
    injection e with e1 e2
    subst e2
    exact ⟨g, w, _, .inl (emp _ (hx.nil (beq_t h1))), by rw [← e1]; exact .same hh t0, fun _ => .inl rfl⟩
  | false =>
    rw [h1, sel_false] at e
    cases h2 : Nat.beq (rd st.T (cOp K x)) 57 with
    | true =>
      rw [h2, sel_true] at e
      injection e with e1 e2
      subst e2
      obtain ⟨ad, a2⟩ := hx.emp (beq_t h2)
      exact ⟨g, w, _, .inl (emp _ a2), by rw [← e1]; exact .same hh t0, fun _ => .inl rfl⟩
    | false =>
      rw [h2, sel_false] at e
      obtain ⟨h3, e⟩ := sel_ok e
      obtain ⟨h4, e⟩ := sel_ok e
      obtain ⟨h5, e⟩ := sel_ok e
      rw [fc_eq] at e
      obtain ⟨h6, e⟩ := sel_ok e
      rw [fc_eq] at e
      injection e with e1 e2
      have h4 := beq_t h4
      have h5 := blt_t h5
      simp only [nA] at e1 e2 h6
      obtain ⟨blk, base, room, cap, ad, a1, a2, a3, a4, a5, a6, a7, a8, a9, a10⟩ := hx.sli (beq_t h3)
      rw [h4] at a8 a10
      obtain ⟨cs, c1, c2, c3⟩ := sli_cells (P := P) hh a7 a8 a9 a10 (Nat.le_refl _)
      rw [Nat.mul_one] at c1 c2 c3
      generalize so (rd st.T (cOp K x)) = q0 at *
      generalize sl (rd st.T (cOp K x)) = L at *
      generalize ps (rd st.T (cOp K x)) = s0 at *
      have hl := bytesNat_lt ((List.range L).map fun i => UInt8.ofNat (ixN (gt (ch st.M (s0 + q0) L) i)))
      rw [← rowS_eq _ _ h6, List.length_map, List.length_range] at hl
      obtain ⟨r1, r2⟩ := hh.pool L _ hl
      have hcell : ∀ j, j < L → cs.getD j undef = .int .u8 (ixN (gt (ch st.M (s0 + q0) L) j) : Nat) := fun j hj => by
        obtain ⟨b1, b2, b3⟩ := rowB_ok h6 hj
        exact u8_inv (c3 j hj) b1 b2
      have hrun : (convert s d (.slice (some ad) L cap)).run P w = .ok (.string ⟨((List.range L).map fun i => UInt8.ofNat (ixN (gt (ch st.M (s0 + q0) L) i))).toArray⟩) w := by
        have hb := run_bytesToString (P := P) w ad L cap ((List.range L).map fun i => ((ixN (gt (ch st.M (s0 + q0) L) i) : Nat) : Int)) (by
          rw [c2 w rfl]
          congr 1
          apply Array.ext_getElem?
          intro j
          by_cases hj : j < L
          · rw [get_getD (by omega), hcell j hj]
            simp [hj]
          · rw [Array.getElem?_eq_none (by omega), Array.getElem?_eq_none (by simp; omega)])
        rw [run_convert_bytes_string w s d el (some ad) L cap hs he hd, hb]
        have hm : ((List.range L).map fun i => ((ixN (gt (ch st.M (s0 + q0) L) i) : Nat) : Int)) = ((List.range L).map fun i => UInt8.ofNat (ixN (gt (ch st.M (s0 + q0) L) i))).map fun b => (b.toNat : Int) := by
          rw [List.map_map]
          refine List.map_congr_left fun i hi => ?_
          have := (rowB_ok h6 (List.mem_range.1 hi)).2.2
          simp only [Function.comp, UInt8.toNat_ofNat']
          rw [Nat.mod_eq_of_lt this]
        rw [hm, foldl_push_byteCells]
        have he0 : ByteArray.empty.data = #[] := rfl
        rw [he0]
        simp
      subst e2
      refine ⟨_, w, .string ⟨((List.range L).map fun i => UInt8.ofNat (ixN (gt (ch st.M (s0 + q0) L) i))).toArray⟩, .inl ?_, ⟨r1, r2, Ext.refl _ _, ?_, rfl, rfl⟩, fun _ => .inl rfl⟩
      · simp only [execOp, ho, a2, Sem.run_bind, hrun, Result.andThen_ok]; rfl
      · rw [← e1]
        have hs' : strOf (adS st.S st.nS (rowS (ch st.M (s0 + q0) L) L)) st.nS L = ⟨((List.range L).map fun i => UInt8.ofNat (ixN (gt (ch st.M (s0 + q0) L) i))).toArray⟩ := by
          apply ByteArray.ext; apply Array.ext'
          rw [strOf_data]
          apply List.ext_getElem
          · rw [List.length_map, List.length_map]
          · intro i hi1 hi2
            have hi : i < L := by simpa using hi1
            simp only [List.getElem_map, List.getElem_range]
            rw [byteAt_adS _ _ hh.Slt, if_neg (by omega), show st.nS + i - st.nS = i by omega, rowS_eq _ _ h6, byteAt_bytesNat _ _ (by simpa using hi), List.getElem_map, List.getElem_range, UInt8.toNat_ofNat', Nat.mod_eq_of_lt (rowB_ok h6 hi).2.2]
        rw [← hs']
        exact .cell _ _ (VR.str (g := { g with S := adS st.S st.nS (rowS (ch st.M (s0 + q0) L) L), nS := st.nS + L }) st.nS L a5 (Nat.le_refl _) h5)

/-! ### comparisons -/
/-- The word of a nil, and the tags that are none. -/
noncomputable def opNl (neg : Bool) (nw t1 t2 : Nat) (x : Opd) (st : St) : RS :=
  sel (Nat.beq (rd st.T x) nw) (.ok (sel neg 1 17) st) (sel (Nat.beq (Nat.mod (rd st.T x) 16) t1) (.ok (sel neg 17 1) st) (sel (Nat.beq (Nat.mod (rd st.T x) 16) t2) (.ok (sel neg 17 1) st) .no))
theorem bool_tr (g : Gh) (R nR : Nat) (b : Bool) : TR g R nR (sel b 17 1) (.bool b) := by cases b <;> first | exact .cell _ _ (.bool true) | exact .cell _ _ (.bool false)
theorem eq_of_in {t : TypeId} {x y : Value} {b : Bool} {W : World} (h : ∀ d, (Op.equalIn (d + 1) t x y).run P W = .ok b W) : (Op.equal t x y).run P W = .ok b W := h 9999
section
variable {t : TypeId} {b : Bool} {W : World}
theorem bq_p (neg : Bool) {p q : Option Addr} (h : (Op.equal t (.pointer p) (.pointer q)).run P W = .ok b W) : (binOp (if neg then .neq else .eql) t (.pointer p) (.pointer q)).run P W = .ok (.bool (neg ^^ b)) W := by
  cases neg <;> simp only [binOp, Sem.run_bind, h, Result.andThen_ok, if_true, if_false, Bool.false_eq_true] <;> cases b <;> rfl
theorem bq_s (neg : Bool) {p q : Option Addr} {l c l' c' : Nat} (h : (Op.equal t (.slice p l c) (.slice q l' c')).run P W = .ok b W) : (binOp (if neg then .neq else .eql) t (.slice p l c) (.slice q l' c')).run P W = .ok (.bool (neg ^^ b)) W := by
  cases neg <;> simp only [binOp, Sem.run_bind, h, Result.andThen_ok, if_true, if_false, Bool.false_eq_true] <;> cases b <;> rfl
theorem bq_m (neg : Bool) {p q : Option Nat} (h : (Op.equal t (.map p) (.map q)).run P W = .ok b W) : (binOp (if neg then .neq else .eql) t (.map p) (.map q)).run P W = .ok (.bool (neg ^^ b)) W := by
  cases neg <;> simp only [binOp, Sem.run_bind, h, Result.andThen_ok, if_true, if_false, Bool.false_eq_true] <;> cases b <;> rfl
theorem bq_f (neg : Bool) {f : Fn} {x y : Array Value} (h : (Op.equal t (.func f x y) .nilFunc).run P W = .ok b W) : (binOp (if neg then .neq else .eql) t (.func f x y) .nilFunc).run P W = .ok (.bool (neg ^^ b)) W := by
  cases neg <;> simp only [binOp, Sem.run_bind, h, Result.andThen_ok, if_true, if_false, Bool.false_eq_true] <;> cases b <;> rfl
theorem bq_f0 (neg : Bool) (h : (Op.equal t .nilFunc .nilFunc).run P W = .ok b W) : (binOp (if neg then .neq else .eql) t .nilFunc .nilFunc).run P W = .ok (.bool (neg ^^ b)) W := by
  cases neg <;> simp only [binOp, Sem.run_bind, h, Result.andThen_ok, if_true, if_false, Bool.false_eq_true] <;> cases b <;> rfl
theorem bq_i (neg : Bool) {d : TypeId} {x : Value} (h : (Op.equal t (.iface d x) .nilIface).run P W = .ok b W) : (binOp (if neg then .neq else .eql) t (.iface d x) .nilIface).run P W = .ok (.bool (neg ^^ b)) W := by
  cases neg <;> simp only [binOp, Sem.run_bind, h, Result.andThen_ok, if_true, if_false, Bool.false_eq_true] <;> cases b <;> rfl
theorem bq_i0 (neg : Bool) (h : (Op.equal t .nilIface .nilIface).run P W = .ok b W) : (binOp (if neg then .neq else .eql) t .nilIface .nilIface).run P W = .ok (.bool (neg ^^ b)) W := by
  cases neg <;> simp only [binOp, Sem.run_bind, h, Result.andThen_ok, if_true, if_false, Bool.false_eq_true] <;> cases b <;> rfl
theorem bq_b (neg : Bool) {x y : Bool} (h : (Op.equal t (.bool x) (.bool y)).run P W = .ok b W) : (binOp (if neg then .neq else .eql) t (.bool x) (.bool y)).run P W = .ok (.bool (neg ^^ b)) W := by
  cases neg <;> simp only [binOp, Sem.run_bind, h, Result.andThen_ok, if_true, if_false, Bool.false_eq_true] <;> cases b <;> rfl
end
theorem run_pure_unit (W : World) : (pure () : Sem Unit).run P W = .ok () W := rfl

theorem opNl_core {t u : TypeId} {x : Operand} {n : Value} (neg : Bool) (nw t1 t2 : Nat) (ho : o.op = .binOp (if neg then .neq else .eql) t x (.const n) u)
    (hn : ∀ (g : Gh) (R nR w : Nat) (v : Value) (W : World), TR g R nR w v → w = nw → (eqGuard (if neg then .neq else .eql) t x (.const n) v n).run P W = .ok () W ∧ (binOp (if neg then .neq else .eql) t v n).run P W = .ok (.bool (!neg)) W)
    (ht : ∀ (g : Gh) (R nR w : Nat) (v : Value) (W : World), TR g R nR w v → w % 16 = t1 ∨ w % 16 = t2 → (eqGuard (if neg then .neq else .eql) t x (.const n) v n).run P W = .ok () W ∧ (binOp (if neg then .neq else .eql) t v n).run P W = .ok (.bool neg) W) :
    OpV P K o (opNl neg nw t1 t2 (cOp K x)) := .pure fun g st a w z st' _ _ hy e => by
  unfold opNl at e
  have hx := hy x (by simp [ho, Op.operands])
  have fin : ∀ b : Bool, ((eqGuard (if neg then .neq else .eql) t x (.const n) (a.eval x) n).run P w = .ok () w ∧ (binOp (if neg then .neq else .eql) t (a.eval x) n).run P w = .ok (.bool b) w) → (execOp a.eval o).run P w = .ok (.value (.bool b)) w := fun b h => by
    have ec : a.eval (.const n) = n := rfl
    simp only [execOp, ho, ec, Sem.run_bind, h.1, h.2, Result.andThen_ok]; rfl
  have yes : RS.ok (sel neg 1 17) st = .ok z st' → TR g st.R st.nR (rd st.T (cOp K x)) (a.eval x) → rd st.T (cOp K x) = nw → st' = st ∧ ∃ v, (execOp a.eval o).run P w = .ok (.value v) w ∧ TR g st.R st.nR z v := fun e h1 h2 => by
    injection e with e1 e2
    refine ⟨e2.symm, _, fin _ (hn g _ _ _ _ w h1 h2), ?_⟩
    rw [← e1]
    have := bool_tr g st.R st.nR (!neg)
    cases neg <;> exact this
  have no : RS.ok (sel neg 17 1) st = .ok z st' → (rd st.T (cOp K x) % 16 = t1 ∨ rd st.T (cOp K x) % 16 = t2) → st' = st ∧ ∃ v, (execOp a.eval o).run P w = .ok (.value v) w ∧ TR g st.R st.nR z v := fun e h2 => by
    injection e with e1 e2
    refine ⟨e2.symm, _, fin _ (ht g _ _ _ _ w hx h2), ?_⟩
    rw [← e1]
    exact bool_tr g st.R st.nR neg
  cases h1 : Nat.beq (rd st.T (cOp K x)) nw with
  | true => rw [h1, sel_true] at e; exact yes e hx (beq_t h1)
  | false =>
    rw [h1, sel_false] at e
    cases h2 : Nat.beq (Nat.mod (rd st.T (cOp K x)) 16) t1 with
    | true => rw [h2, sel_true] at e; exact no e (.inl (beq_t h2))
    | false =>
      rw [h2, sel_false] at e
      obtain ⟨h3, e⟩ := sel_ok e
      exact no e (.inr (beq_t h3))

theorem opNlP_ok {t u : TypeId} {el : TypeId} {x : Operand} (neg : Bool) (ho : o.op = .binOp (if neg then .neq else .eql) t x (.const (.pointer none)) u) (ht : P.underlying t = some (.pointer el)) : OpV P K o (opNl neg 4 5 5 (cOp K x)) :=
  opNl_core neg 4 5 5 ho (fun g R nR w v W h e => by
    have := (h.cell_inv (by omega) (by omega) (by omega) (by omega)).pnil_inv (by omega)
    subst this
    have h2 : (Op.equal t (.pointer none) (.pointer none)).run P W = .ok true W := (eq_of_in fun d => by simp [Op.equalIn, run_underlying ht])
    have h3 := bq_p neg h2
    refine ⟨by rw [eqGuard_at_pointer]; rfl, ?_⟩
    cases neg <;> exact h3) (fun g R nR w v W h e => by
    obtain ⟨blk, base, room, _, rfl, _⟩ := h.ptr (by omega)
    have h2 : (Op.equal t (.pointer (some ⟨blk, base + po w, none⟩)) (.pointer none)).run P W = .ok false W := (eq_of_in fun d => by simp [Op.equalIn, run_underlying ht])
    have h3 := bq_p neg h2
    refine ⟨by rw [eqGuard_at_pointer]; rfl, ?_⟩
    cases neg <;> exact h3)

theorem opNlS_ok {t u : TypeId} {el : TypeId} {c : Nat} {x : Operand} (neg : Bool) (ho : o.op = .binOp (if neg then .neq else .eql) t x (.const (.slice none 0 c)) u) (ht : P.underlying t = some (.slice el)) : OpV P K o (opNl neg 6 7 7 (cOp K x)) :=
  opNl_core neg 6 7 7 ho (fun g R nR w v W h e => by
    have := h.nil e
    subst this
    have h2 : (Op.equal t (.slice none 0 0) (.slice none 0 c)).run P W = .ok true W := (eq_of_in fun d => by simp [Op.equalIn, run_underlying ht])
    have h3 := bq_s neg h2
    refine ⟨by rw [eqGuard_at_slice]; rfl, ?_⟩
    cases neg <;> exact h3) (fun g R nR w v W h e => by
    obtain ⟨blk, base, room, cap, ad, _, rfl, _⟩ := h.sli (by omega)
    have h2 : (Op.equal t (.slice (some ad) (sl w) cap) (.slice none 0 c)).run P W = .ok false W := (eq_of_in fun d => by simp [Op.equalIn, run_underlying ht])
    have h3 := bq_s neg h2
    refine ⟨by rw [eqGuard_at_slice]; rfl, ?_⟩
    cases neg <;> exact h3)

theorem opNlF_ok {t u : TypeId} {ps rs : Array TypeId} {vr : Bool} {x : Operand} (neg : Bool) (ho : o.op = .binOp (if neg then .neq else .eql) t x (.const .nilFunc) u) (ht : P.underlying t = some (.func ps rs vr)) : OpV P K o (opNl neg 25 10 15 (cOp K x)) :=
  opNl_core neg 25 10 15 ho (fun g R nR w v W h e => by
    have := (h.cell_inv (by omega) (by omega) (by omega) (by omega)).fnil_inv e
    subst this
    have h2 : (Op.equal t .nilFunc .nilFunc).run P W = .ok true W := (eq_of_in fun d => by simp [Op.equalIn, run_underlying ht])
    have h3 := bq_f0 neg h2
    refine ⟨by rw [eqGuard_at_nilFunc]; rfl, ?_⟩
    cases neg <;> exact h3) (fun g R nR w v W h e => by
    have hv := h.cell_inv (by omega) (by omega) (by omega) (by omega)
    rcases e with e | e
    · obtain ⟨f, m, n, s, ws, fi, ca, _, rfl, _⟩ := hv.func_inv e
      have h2 : (Op.equal t (.func (.func f) fi ca) .nilFunc).run P W = .ok false W := (eq_of_in fun d => by simp [Op.equalIn, run_underlying ht])
      have h3 := bq_f neg h2
      refine ⟨by rw [eqGuard_at_func]; rfl, ?_⟩
      cases neg <;> exact h3
    · obtain ⟨f, _, rfl, _⟩ := hv.fn0_inv e
      have h2 : (Op.equal t (.func (.func f) #[] #[]) .nilFunc).run P W = .ok false W := (eq_of_in fun d => by simp [Op.equalIn, run_underlying ht])
      have h3 := bq_f neg h2
      refine ⟨by rw [eqGuard_at_func]; rfl, ?_⟩
      cases neg <;> exact h3)

theorem opNlI_ok {t u : TypeId} {ms : Array (String × TypeId)} {x : Operand} (neg : Bool) (ho : o.op = .binOp (if neg then .neq else .eql) t x (.const .nilIface) u) (ht : P.underlying t = some (.interface ms)) : OpV P K o (opNl neg 41 11 11 (cOp K x)) :=
  opNl_core neg 41 11 11 ho (fun g R nR w v W h e => by
    have := (h.cell_inv (by omega) (by omega) (by omega) (by omega)).inil_inv e
    subst this
    have h2 : (Op.equal t .nilIface .nilIface).run P W = .ok true W := (eq_of_in fun d => by simp [Op.equalIn, run_underlying ht])
    have h3 := bq_i0 neg h2
    refine ⟨by rw [eqGuard_nil_constR]; rfl, ?_⟩
    cases neg <;> exact h3) (fun g R nR w v W h e => by
    obtain ⟨t', s, u', y, _, rfl, _⟩ := (h.cell_inv (by omega) (by omega) (by omega) (by omega)).ifc_inv (by omega)
    have h2 : (Op.equal t (.iface t' y) .nilIface).run P W = .ok false W := (eq_of_in fun d => by simp [Op.equalIn, run_underlying ht])
    have h3 := bq_i neg h2
    refine ⟨by rw [eqGuard_at_iface]; rfl, ?_⟩
    cases neg <;> exact h3)

theorem opNlM_ok {t u : TypeId} {k el : TypeId} {x : Operand} (neg : Bool) (ho : o.op = .binOp (if neg then .neq else .eql) t x (.const (.map none)) u) (ht : P.underlying t = some (.map k el)) : OpV P K o (opNl neg 9 8 8 (cOp K x)) :=
  opNl_core neg 9 8 8 ho (fun g R nR w v W h e => by
    have := (h.cell_inv (by omega) (by omega) (by omega) (by omega)).mnil_inv e
    subst this
    have h2 : (Op.equal t (.map none) (.map none)).run P W = .ok true W := (eq_of_in fun d => by simp [Op.equalIn, run_underlying ht])
    have h3 := bq_m neg h2
    refine ⟨by rw [eqGuard_at_map]; rfl, ?_⟩
    cases neg <;> exact h3) (fun g R nR w v W h e => by
    obtain ⟨s, blk, _, rfl, _⟩ := (h.cell_inv (by omega) (by omega) (by omega) (by omega)).map_inv (by omega)
    have h2 : (Op.equal t (.map (some blk)) (.map none)).run P W = .ok false W := (eq_of_in fun d => by simp [Op.equalIn, run_underlying ht])
    have h3 := bq_m neg h2
    refine ⟨by rw [eqGuard_at_map]; rfl, ?_⟩
    cases neg <;> exact h3)

/-- Two pointers into one allocation. -/
noncomputable def opPe (neg : Bool) (x y : Opd) (st : St) : RS :=
  sel (Nat.beq (Nat.mod (rd st.T x) 16) 5) (sel (Nat.beq (Nat.mod (rd st.T y) 16) 5) (sel (Nat.beq (ps (rd st.T x)) (ps (rd st.T y))) (.ok (sel (Nat.beq (po (rd st.T x)) (po (rd st.T y))) (sel neg 1 17) (sel neg 17 1)) st) .no) .no) .no
theorem opPe_ok {t u el : TypeId} {x y : Operand} {i : TypeInfo} (neg : Bool) (ho : o.op = .binOp (if neg then .neq else .eql) t x y u) (ht : P.underlying t = some (.pointer el)) (hi : P.info? el = some i) (hz : i.size ≠ 0) : OpV P K o (opPe neg (cOp K x) (cOp K y)) := .pure fun g st a w z st' _ _ hy e => by
  unfold opPe at e
  obtain ⟨h1, e⟩ := sel_ok e
  obtain ⟨h2, e⟩ := sel_ok e
  obtain ⟨h3, e⟩ := sel_ok e
  injection e with e1 e2
  have h3 := beq_t h3
  obtain ⟨blk, base, room, a1, a2, a3, a4, a5, a6⟩ := (hy x (by simp [ho, Op.operands])).ptr (beq_t h1)
  obtain ⟨blk', base', room', b1, b2, b3, b4, b5, b6⟩ := (hy y (by simp [ho, Op.operands])).ptr (beq_t h2)
  rw [← h3, a5] at b5
  injection b5 with c1 c2 c3 c4
  subst c1; subst c2
  have hb : Nat.beq (po (rd st.T (cOp K x))) (po (rd st.T (cOp K y))) = decide (base + po (rd st.T (cOp K x)) = base + po (rd st.T (cOp K y))) := by
    rw [Bool.eq_iff_iff, Nat.beq_eq, decide_eq_true_eq]; omega
  refine ⟨e2.symm, .bool (neg ^^ decide (base + po (rd st.T (cOp K x)) = base + po (rd st.T (cOp K y)))), ?_, ?_⟩
  · generalize base + po (rd st.T (cOp K x)) = p1 at *
    generalize base + po (rd st.T (cOp K y)) = p2 at *
    have hd : decide (p1 = p2) = ((⟨blk, p1, none⟩ : Addr) == ⟨blk, p2, none⟩) := by
      rw [Bool.eq_iff_iff, decide_eq_true_eq, beq_iff_eq]
      exact ⟨fun h => by rw [h], fun h => by injection h⟩
    rw [hd]
    have h2 : (Op.equal t (.pointer (some ⟨blk, p1, none⟩)) (.pointer (some ⟨blk, p2, none⟩))).run P w = .ok ((⟨blk, p1, none⟩ : Addr) == ⟨blk, p2, none⟩) w := eq_of_in fun d => by
      simp [Op.equalIn, run_underlying ht, run_siz hi, hz, sameAddr]
    have h3 := bq_p neg h2
    simp only [execOp, ho, a2, b2, Sem.run_bind, eqGuard_at_pointer, run_pure_unit, Result.andThen_ok, h3]; rfl
  · rw [← e1, hb]
    cases neg <;> cases decide (base + po (rd st.T (cOp K x)) = base + po (rd st.T (cOp K y))) <;> first | exact .cell _ _ (.bool true) | exact .cell _ _ (.bool false)

/-- Bools. -/
noncomputable def opBe (neg : Bool) (x y : Opd) (st : St) : RS :=
  sel (Nat.beq (Nat.mod (rd st.T x) 16) 1) (sel (Nat.beq (Nat.mod (rd st.T y) 16) 1) (.ok (sel (Nat.beq (rd st.T x) (rd st.T y)) (sel neg 1 17) (sel neg 17 1)) st) .no) .no
theorem opBe_ok {t u : TypeId} {x y : Operand} (neg : Bool) (ho : o.op = .binOp (if neg then .neq else .eql) t x y u) (ht : P.underlying t = some .bool) : OpV P K o (opBe neg (cOp K x) (cOp K y)) := .pure fun g st a w z st' _ _ hy e => by
  unfold opBe at e
  obtain ⟨h1, e⟩ := sel_ok e
  obtain ⟨h2, e⟩ := sel_ok e
  injection e with e1 e2
  have h1 : rd st.T (cOp K x) % 16 = 1 := beq_t h1
  have h2 : rd st.T (cOp K y) % 16 = 1 := beq_t h2
  obtain ⟨b, a1, a2⟩ := ((hy x (by simp [ho, Op.operands])).cell_inv (by omega) (by omega) (by omega) (by omega)).bool_inv h1
  obtain ⟨c, b1, b2⟩ := ((hy y (by simp [ho, Op.operands])).cell_inv (by omega) (by omega) (by omega) (by omega)).bool_inv h2
  refine ⟨e2.symm, .bool (neg ^^ (b == c)), ?_, ?_⟩
  · have h2 : (Op.equal t (.bool b) (.bool c)).run P w = .ok (b == c) w := eq_of_in fun d => by simp [Op.equalIn, run_underlying ht]
    have h3 := bq_b neg h2
    simp only [execOp, ho, a2, b2, Sem.run_bind, eqGuard_at_bool, run_pure_unit, Result.andThen_ok, h3]; rfl
  · rw [← e1, a1, b1]
    cases neg <;> cases b <;> cases c <;> first | exact .cell _ _ (.bool true) | exact .cell _ _ (.bool false)

/-- The greater, the less of two integers. -/
noncomputable def opMx (mx : Bool) (x y : Opd) (st : St) : RS :=
  sel (Nat.beq (Nat.mod (rd st.T x) 16) 2) (sel (Nat.beq (Nat.mod (rd st.T y) 256) (Nat.mod (rd st.T x) 256)) (.ok (sel (sel mx (Nat.ble (rd st.T y) (rd st.T x)) (Nat.ble (rd st.T x) (rd st.T y))) (rd st.T x) (rd st.T y)) st) .no) .no
theorem opMx_ok {ts : Array TypeId} {x y : Operand} (mx : Bool) (ho : o.op = .call { callee := .builtin (if mx then .max else .min), args := #[x, y], argTypes := ts }) : OpV P K o (opMx mx (cOp K x) (cOp K y)) := .pure fun g st a w z st' _ _ hy e => by
  unfold opMx at e
  obtain ⟨h1, e⟩ := sel_ok e
  obtain ⟨h2, e⟩ := sel_ok e
  injection e with e1 e2
  have h1 : rd st.T (cOp K x) % 16 = 2 := beq_t h1
  have h2 : rd st.T (cOp K y) % 256 = rd st.T (cOp K x) % 256 := beq_t h2
  obtain ⟨k, n, a1, a2, a3, a4⟩ := (hy x (by simp [ho, Op.operands, Call.operands])).int' h1
  rw [a1, eInt_mod] at h2
  obtain ⟨m, b1, b2, b3, b4⟩ := (hy y (by simp [ho, Op.operands, Call.operands])).int h2
  rw [a1, b1] at e1
  have e3 : ∀ a b : Int, -9223372036854775808 ≤ a → -9223372036854775808 ≤ b → Nat.ble (eInt k a) (eInt k b) = decide (a ≤ b) := fun a b ha hb => by
    rw [Bool.eq_iff_iff]
    simp only [Nat.ble_eq, decide_eq_true_eq]
    unfold eInt
    omega
  rw [e3 _ _ b3 a3, e3 _ _ a3 b3] at e1
  cases mx with
  | true =>
    refine ⟨e2.symm, .int k (if m ≤ n then n else m), ?_, ?_⟩
    · by_cases hc : m ≤ n
      · have : ¬ m > n := by omega
        simp [execOp, ho, resolve, invoke, builtin, Builtin.max_, Builtin.max2, a2, b2, hc, this]
      · have : m > n := by omega
        simp [execOp, ho, resolve, invoke, builtin, Builtin.max_, Builtin.max2, a2, b2, hc, this]
    · rw [← e1]
      by_cases hc : m ≤ n
      · rw [if_pos hc, sel_true, decide_eq_true hc]; exact .cell _ _ (.int k n a3 a4)
      · rw [if_neg hc, sel_true, decide_eq_false hc]; exact .cell _ _ (.int k m b3 b4)
  | false =>
    refine ⟨e2.symm, .int k (if n ≤ m then n else m), ?_, ?_⟩
    · by_cases hc : n ≤ m
      · have : ¬ m < n := by omega
        simp [execOp, ho, resolve, invoke, builtin, Builtin.min_, Builtin.min2, a2, b2, hc, this]
      · have : m < n := by omega
        simp [execOp, ho, resolve, invoke, builtin, Builtin.min_, Builtin.min2, a2, b2, hc, this]
    · rw [← e1]
      by_cases hc : n ≤ m
      · rw [if_pos hc, sel_false, decide_eq_true hc]; exact .cell _ _ (.int k n a3 a4)
      · rw [if_neg hc, sel_false, decide_eq_false hc]; exact .cell _ _ (.int k m b3 b4)

end
end Ev
end Go.Proofs.YtgdibfnpkcdiiaaGreatDoor
