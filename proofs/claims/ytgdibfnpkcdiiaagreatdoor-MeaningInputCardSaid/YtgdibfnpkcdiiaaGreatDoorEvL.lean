/- Slices: lengths, parts, making, appending, copying. No condition. -/
import Derived.Test.YtgdibfnpkcdiiaaGreatDoorEvK
import Derived.Laws.AppendOwn
import Derived.Laws.Runes
namespace Go.Proofs.YtgdibfnpkcdiiaaGreatDoor
namespace Ev

section
variable {P : Program} {K : Kon} {o : Oper}

/-! ### len -/
noncomputable def opLn (x : Opd) (st : St) : RS :=
  sel (Nat.beq (Nat.mod (rd st.T x) 16) 7) (.ok (Nat.add 2361183241434822606898 (Nat.mul 256 (sl (rd st.T x)))) st) (sel (Nat.beq (rd st.T x) 6) (.ok 2361183241434822606898 st) (sel (Nat.beq (rd st.T x) 57) (.ok 2361183241434822606898 st) .no))
theorem i64_zero : (2361183241434822606898 : Nat) = eInt .i64 ((0 : Nat) : Int) := by decide
/-- A slice's length, whatever it is. -/
theorem TR.nil {g : Gh} {R nR w : Nat} {v : Value} (h : TR g R nR w v) (e : w = 6) : v = .slice none 0 0 := (h.cell_inv (by omega) (by omega) (by omega) (by omega)).snil_inv (by omega)
theorem TR.emp {g : Gh} {R nR w : Nat} {v : Value} (h : TR g R nR w v) (e : w = 57) : ∃ a, v = .slice (some a) 0 0 := (h.cell_inv (by omega) (by omega) (by omega) (by omega)).semp_inv e

theorem opLn_ok {t el : TypeId} {x : Operand} (ho : o.op = .call { callee := .builtin .len, args := #[x], argTypes := #[t] }) (ht : P.underlying t = some (.slice el)) : OpV P K o (opLn (cOp K x)) := .pure fun g st a w z st' _ _ hy e => by
  unfold opLn at e
  have hx := hy x (by simp [ho, Op.operands, Call.operands])
  have key : ∀ (b : Option Addr) (n c : Nat), a.eval x = .slice b n c → (execOp a.eval o).run P w = .ok (.value (goInt n)) w := fun b n c hv => by
    simp [execOp, ho, resolve, invoke, builtin, Builtin.len_, run_underlying ht, hv]
  cases h1 : Nat.beq (Nat.mod (rd st.T (cOp K x)) 16) 7 with
  | true =>
    rw [h1, sel_true] at e
    injection e with e1 e2
    simp only [nA, nM] at e1
    obtain ⟨blk, base, room, cap, ad, a1, a2, a3, a4, a5, _⟩ := hx.sli (beq_t h1)
    refine ⟨e2.symm, _, key _ _ _ a2, ?_⟩
    rw [← e1, ← eInt_i64]
    exact .cell _ _ (.int _ _ (by omega) (by omega))
  | false =>
    rw [h1, sel_false] at e
    have z0 : TR g st.R st.nR 2361183241434822606898 (goInt (0 : Nat)) := by rw [i64_zero]; exact .cell _ _ (.int _ _ (by decide) (by decide))
    cases h2 : Nat.beq (rd st.T (cOp K x)) 6 with
    | true =>
      rw [h2, sel_true] at e
      injection e with e1 e2
      exact ⟨e2.symm, _, key _ _ _ (hx.nil (beq_t h2)), by rw [← e1]; exact z0⟩
    | false =>
      rw [h2, sel_false] at e
      obtain ⟨h3, e⟩ := sel_ok e
      injection e with e1 e2
      obtain ⟨ad, a2⟩ := hx.emp (beq_t h3)
      exact ⟨e2.symm, _, key _ _ _ a2, by rw [← e1]; exact z0⟩

noncomputable def opLnC (n : Nat) (st : St) : RS := .ok (Nat.add 2361183241434822606898 (Nat.mul 256 n)) st
theorem opLnC_ok {t el : TypeId} {x : Operand} {n : Nat} (ho : o.op = .call { callee := .builtin .len, args := #[x], argTypes := #[t] }) (ht : P.underlying t = some (.array n el)) (hn : n < 16777216) : OpV P K o (opLnC n) := .pure fun g st a w z st' _ _ hy e => by
  unfold opLnC at e
  injection e with e1 e2
  simp only [nA, nM] at e1
  refine ⟨e2.symm, goInt n, ?_, ?_⟩
  · simp [execOp, ho, resolve, invoke, builtin, Builtin.len_, run_underlying ht]
  · rw [← e1, ← eInt_i64]
    exact .cell _ _ (.int _ _ (by omega) (by omega))

/-! ### parts of slices -/
/-- A bound: an operand that is an index, or what stands for none. -/
noncomputable def bnd (T : Nat) (x : Option Opd) (d : Nat) : Nat := Option.rec d (fun y => ixN (rd T y)) x
noncomputable def bndB (T : Nat) (x : Option Opd) : Bool := Option.rec true (fun y => isIx (rd T y)) x

theorem run_bound0 {k : IntKind} {n y : Nat} {code : BoundsCode} (hy : n ≤ y) (w : World) : (Instr.sliceBound (.int k (n : Int)) y code).run P w = .ok n w := by
  have : (0 : Int) ≤ (n : Int) ∧ (n : Int) ≤ (y : Int) := by omega
  simp only [Instr.sliceBound, asIntOf, Sem.run_bind, Sem.run_pure, Result.andThen_ok, if_pos this, Int.toNat_natCast]
theorem run_bound {x : Operand} {g : Gh} {R nR T : Nat} {a : Act} (h : TR g R nR (rd T (cOp K x)) (a.eval x)) (hb : isIx (rd T (cOp K x)) = true) {y : Nat} {code : BoundsCode} (hy : ixN (rd T (cOp K x)) ≤ y) (w : World) :
    (Instr.sliceBound (a.eval x) y code).run P w = .ok (ixN (rd T (cOp K x))) w := by
  obtain ⟨k, e⟩ := h.ixN hb
  rw [e]
  exact run_bound0 hy w

theorem run_bounds {lo hi : Option Operand} {g : Gh} {R nR T : Nat} {a : Act} (hl : ∀ x, lo = some x → TR g R nR (rd T (cOp K x)) (a.eval x)) (hh : ∀ x, hi = some x → TR g R nR (rd T (cOp K x)) (a.eval x))
    (bl : bndB T (lo.map (cOp K)) = true) (bh : bndB T (hi.map (cOp K)) = true) (sl : Bool) {len cap : Nat} (h1 : bnd T (lo.map (cOp K)) 0 ≤ bnd T (hi.map (cOp K)) len) (h2 : bnd T (hi.map (cOp K)) len ≤ len) (h3 : len ≤ cap) (w : World) :
    (Instr.sliceBounds sl len cap (lo.map a.eval) (hi.map a.eval) none).run P w = .ok (bnd T (lo.map (cOp K)) 0, bnd T (hi.map (cOp K)) len, cap) w := by
  have e1 : ∀ x, lo = some x → ∀ y c, ixN (rd T (cOp K x)) ≤ y → (Instr.sliceBound (a.eval x) y c).run P w = .ok (ixN (rd T (cOp K x))) w := fun x hx y c hy => run_bound (hl x hx) (by subst hx; exact bl) hy w
  have e2 : ∀ x, hi = some x → ∀ y c, ixN (rd T (cOp K x)) ≤ y → (Instr.sliceBound (a.eval x) y c).run P w = .ok (ixN (rd T (cOp K x))) w := fun x hx y c hy => run_bound (hh x hx) (by subst hx; exact bh) hy w
  cases lo with
  | none =>
    cases hi with
    | none => simp [Instr.sliceBounds, bnd]
    | some y =>
      simp only [Option.map_some, bnd] at h1 h2 ⊢
      simp [Instr.sliceBounds, e2 y rfl _ _ (Nat.le_trans h2 h3)]
  | some x =>
    cases hi with
    | none =>
      simp only [Option.map_some, Option.map_none, bnd] at h1 h2 ⊢
      simp [Instr.sliceBounds, e1 x rfl _ _ h1]
    | some y =>
      simp only [Option.map_some, bnd] at h1 h2 ⊢
      simp [Instr.sliceBounds, e2 y rfl _ _ (Nat.le_trans h2 h3), e1 x rfl _ _ h1]

noncomputable def opSlc (size : Nat) (x : Opd) (lo hi : Option Opd) (st : St) : RS :=
  sel (bndB st.T lo) (sel (bndB st.T hi)
    (sel (Nat.beq (Nat.mod (rd st.T x) 16) 7)
      (sel (Nat.ble (bnd st.T lo 0) (bnd st.T hi (sl (rd st.T x)))) (sel (Nat.ble (bnd st.T hi (sl (rd st.T x))) (sl (rd st.T x))) (sel (Nat.beq (se (rd st.T x)) size)
        (.ok (Nat.add (Nat.add (Nat.add (Nat.mod (rd st.T x) 4503599627370496) (Nat.mul 4503599627370496 (Nat.sub (bnd st.T hi (sl (rd st.T x))) (bnd st.T lo 0)))) (Nat.mul 75557863725914323419136 size))
          (Nat.mul 19342813113834066795298816 (Nat.add (so (rd st.T x)) (Nat.mul (bnd st.T lo 0) size)))) st) .no) .no) .no)
      (sel (Nat.beq (bnd st.T lo 0) 0) (sel (Nat.beq (bnd st.T hi 0) 0) (sel (Nat.beq (rd st.T x) 6) (.ok 6 st) (sel (Nat.beq (rd st.T x) 57) (.ok 57 st) .no)) .no) .no)) .no) .no

theorem sli_mod {s z l e q l' e' q' : Nat} (hs : s < 16777216) (hz : z < 16777216) : eSli s z l e q % 4503599627370496 + 4503599627370496 * l' + 75557863725914323419136 * e' + 19342813113834066795298816 * q' = eSli s z l' e' q' := by
  unfold eSli; omega

theorem opSlc_ok {t el : TypeId} {x : Operand} {lo hi : Option Operand} {i : TypeInfo} (ho : o.op = .slice t x lo hi none) (ht : P.underlying t = some (.slice el)) (hi' : P.info? el = some i) : OpV P K o (opSlc i.size (cOp K x) (lo.map (cOp K)) (hi.map (cOp K))) := .pure fun g st a w z st' _ _ hy e => by
  unfold opSlc at e
  obtain ⟨h1, e⟩ := sel_ok e
  obtain ⟨h2, e⟩ := sel_ok e
  have hx := hy x (by simp [ho, Op.operands])
  have hl : ∀ y, lo = some y → TR g st.R st.nR (rd st.T (cOp K y)) (a.eval y) := fun y hl => hy y (by simp [ho, Op.operands, hl])
  have hh : ∀ y, hi = some y → TR g st.R st.nR (rd st.T (cOp K y)) (a.eval y) := fun y hl => hy y (by simp [ho, Op.operands, hl])
  have key : ∀ (b : Option Addr) (n c : Nat), a.eval x = .slice b n c → n ≤ c → bnd st.T (lo.map (cOp K)) 0 ≤ bnd st.T (hi.map (cOp K)) n → bnd st.T (hi.map (cOp K)) n ≤ n →
      (execOp a.eval o).run P w = .ok (.value (.slice (if c = bnd st.T (lo.map (cOp K)) 0 then b else b.map (·.add (bnd st.T (lo.map (cOp K)) 0 * i.size))) (bnd st.T (hi.map (cOp K)) n - bnd st.T (lo.map (cOp K)) 0) (c - bnd st.T (lo.map (cOp K)) 0))) w := fun b n c hv h3 h4 h5 => by
    have := run_bounds (P := P) hl hh h1 h2 true h4 h5 h3 w
    simp only [execOp, ho, Instr.sliceAt, Instr.slice, run_underlying ht, hv, Option.map_none, Sem.run_bind, this, Result.andThen_ok, run_siz hi', Sem.run_pure]
  cases h3 : Nat.beq (Nat.mod (rd st.T (cOp K x)) 16) 7 with
  | true =>
    rw [h3, sel_true] at e
    obtain ⟨h4, e⟩ := sel_ok e
    obtain ⟨h5, e⟩ := sel_ok e
    obtain ⟨h6, e⟩ := sel_ok e
    injection e with e1 e2
    have h4 := ble_t h4
    have h5 := ble_t h5
    have h6 := beq_t h6
    simp only [nA, nM, Ev.nS, Ev.nR] at e1
    obtain ⟨blk, base, room, cap, ad, a1, a2, a3, a4, a5, a6, a7, a8, a9, a10⟩ := hx.sli (beq_t h3)
    have hr := key _ _ _ a2 a9 h4 h5
    rw [a1, sli_mod a3 a4] at e1
    rw [so_eSli a3 a4 a5 a6, sl_eSli a3 a4 a5] at e1
    generalize bnd st.T (lo.map (cOp K)) 0 = l at *
    generalize bnd st.T (hi.map (cOp K)) (sl (rd st.T (cOp K x))) = h at *
    refine ⟨e2.symm, _, hr, ?_⟩
    have hmul : ∀ u v : Nat, u ≤ v → u * i.size ≤ v * i.size := fun u v huv => Nat.mul_le_mul_right _ huv
    have m1 := hmul h (sl (rd st.T (cOp K x))) h5
    have m2 : (h - l) * i.size = h * i.size - l * i.size := Nat.sub_mul _ _ _
    have m3 : (cap - l) * i.size = cap * i.size - l * i.size := Nat.sub_mul _ _ _
    have m4 := hmul l h h4
    have m5 := hmul (sl (rd st.T (cOp K x))) cap a9
    rw [h6] at a8 a6 a10
    have hb : so (rd st.T (cOp K x)) + l * i.size + (h - l) * i.size ≤ pz (rd st.T (cOp K x)) := by omega
    rw [← e1]
    by_cases hc : cap = l
    · rw [if_pos hc]
      exact .cell _ _ (.sli _ _ _ _ _ blk base room _ _ a3 a4 (by omega) a6 a7 hb (by omega) (.inl (by omega)))
    · rw [if_neg hc]
      obtain ⟨rfl, hroom⟩ := a10.resolve_left (by omega)
      refine .cell _ _ (.sli _ _ _ _ _ blk base room _ _ a3 a4 (by omega) a6 a7 hb (by omega) (.inr ⟨?_, by omega⟩))
      show Addr.add _ _ = _
      rw [add_none, Nat.add_assoc]
  | false =>
    rw [h3, sel_false] at e
    obtain ⟨h4, e⟩ := sel_ok e
    obtain ⟨h5, e⟩ := sel_ok e
    have h4 := beq_t h4
    have h5 := beq_t h5
    cases h6 : Nat.beq (rd st.T (cOp K x)) 6 with
    | true =>
      rw [h6, sel_true] at e
      injection e with e1 e2
      have hr := key _ _ _ (hx.nil (beq_t h6)) (Nat.le_refl _) (by omega) (by omega)
      rw [h4, h5] at hr
      exact ⟨e2.symm, _, hr, by rw [← e1]; exact .cell _ _ .snil⟩
    | false =>
      rw [h6, sel_false] at e
      obtain ⟨h7, e⟩ := sel_ok e
      injection e with e1 e2
      obtain ⟨ad, a2⟩ := hx.emp (beq_t h7)
      have hr := key _ _ _ a2 (Nat.le_refl _) (by omega) (by omega)
      rw [h4, h5] at hr
      exact ⟨e2.symm, _, hr, by rw [← e1]; exact .cell _ _ (.semp _)⟩

/-- 's[:0:0]'. -/
noncomputable def opSl0 (x : Opd) (lo hi mx : Option Opd) (st : St) : RS :=
  sel (bndB st.T lo) (sel (bndB st.T hi) (sel (bndB st.T mx) (sel (Nat.beq (bnd st.T lo 0) 0) (sel (Nat.beq (bnd st.T hi 1) 0) (sel (Nat.beq (bnd st.T mx 1) 0)
    (sel (Nat.beq (rd st.T x) 6) (.ok 6 st) (sel (Nat.beq (rd st.T x) 57) (.ok 57 st) (sel (Nat.beq (Nat.mod (rd st.T x) 16) 7) (.ok 57 st) .no))) .no) .no) .no) .no) .no) .no
theorem opSl0_ok {t el : TypeId} {x : Operand} {lo : Option Operand} {hi mx : Operand} {i : TypeInfo} (ho : o.op = .slice t x lo (some hi) (some mx)) (ht : P.underlying t = some (.slice el)) (hi' : P.info? el = some i) :
    OpV P K o (opSl0 (cOp K x) (lo.map (cOp K)) (some (cOp K hi)) (some (cOp K mx))) := .pure fun g st a w z st' _ _ hy e => by
  unfold opSl0 at e
  obtain ⟨h1, e⟩ := sel_ok e
  obtain ⟨h2, e⟩ := sel_ok e
  obtain ⟨h3, e⟩ := sel_ok e
  obtain ⟨h4, e⟩ := sel_ok e
  obtain ⟨h5, e⟩ := sel_ok e
  obtain ⟨h6, e⟩ := sel_ok e
  have h4 := beq_t h4
  have h5 : ixN (rd st.T (cOp K hi)) = 0 := beq_t h5
  have h6 : ixN (rd st.T (cOp K mx)) = 0 := beq_t h6
  have hx := hy x (by simp [ho, Op.operands])
  have bh : ∀ y c, (Instr.sliceBound (a.eval hi) y c).run P w = .ok 0 w := fun y c => by
    have := run_bound (P := P) (y := y) (code := c) (hy hi (by simp [ho, Op.operands])) h2 (by omega) w
    rwa [h5] at this
  have bm : ∀ y c, (Instr.sliceBound (a.eval mx) y c).run P w = .ok 0 w := fun y c => by
    have := run_bound (P := P) (y := y) (code := c) (hy mx (by simp [ho, Op.operands])) h3 (by omega) w
    rwa [h6] at this
  have key : ∀ (b : Option Addr) (n c : Nat), a.eval x = .slice b n c → (execOp a.eval o).run P w = .ok (.value (.slice b 0 0)) w := fun b n c hv => by
    have hb : (Instr.sliceBounds true n c (lo.map a.eval) (some (a.eval hi)) (some (a.eval mx))).run P w = .ok (0, 0, 0) w := by
      cases lo with
      | none => simp [Instr.sliceBounds, bh, bm]
      | some l =>
        have bl : ∀ y c, (Instr.sliceBound (a.eval l) y c).run P w = .ok 0 w := fun y c => by
          have h4' : ixN (rd st.T (cOp K l)) = 0 := h4
          have := run_bound (P := P) (y := y) (code := c) (hy l (by simp [ho, Op.operands])) h1 (by omega) w
          rwa [h4'] at this
        simp [Instr.sliceBounds, bh, bm, bl]
    simp [execOp, ho, Instr.sliceAt, Instr.slice, run_underlying ht, hv, hb, run_siz hi']
  cases h7 : Nat.beq (rd st.T (cOp K x)) 6 with
  | true =>
    rw [h7, sel_true] at e
    injection e with e1 e2
    exact ⟨e2.symm, _, key _ _ _ (hx.nil (beq_t h7)), by rw [← e1]; exact .cell _ _ .snil⟩
  | false =>
    rw [h7, sel_false] at e
    cases h8 : Nat.beq (rd st.T (cOp K x)) 57 with
    | true =>
      rw [h8, sel_true] at e
      injection e with e1 e2
      obtain ⟨ad, a2⟩ := hx.emp (beq_t h8)
      exact ⟨e2.symm, _, key _ _ _ a2, by rw [← e1]; exact .cell _ _ (.semp _)⟩
    | false =>
      rw [h8, sel_false] at e
      obtain ⟨h9, e⟩ := sel_ok e
      injection e with e1 e2
      obtain ⟨blk, base, room, cap, ad, a1, a2, _⟩ := hx.sli (beq_t h9)
      exact ⟨e2.symm, _, key _ _ _ a2, by rw [← e1]; exact .cell _ _ (.semp _)⟩

/-- A part of an array behind a pointer. -/
noncomputable def opSlP (n size : Nat) (x : Opd) (lo hi : Option Opd) (st : St) : RS :=
  sel (bndB st.T lo) (sel (bndB st.T hi) (sel (Nat.beq (Nat.mod (rd st.T x) 16) 5) (sel (Nat.ble (bnd st.T lo 0) (bnd st.T hi n)) (sel (Nat.ble (bnd st.T hi n) n) (sel (Nat.ble (Nat.add (po (rd st.T x)) (Nat.mul n size)) (pz (rd st.T x)))
    (.ok (Nat.add (Nat.add (Nat.add (Nat.add (Nat.mod (rd st.T x) 4503599627370496) 2) (Nat.mul 4503599627370496 (Nat.sub (bnd st.T hi n) (bnd st.T lo 0)))) (Nat.mul 75557863725914323419136 size))
      (Nat.mul 19342813113834066795298816 (Nat.add (po (rd st.T x)) (Nat.mul (bnd st.T lo 0) size)))) st) .no) .no) .no) .no) .no) .no
theorem opSlP_ok {t el : TypeId} {x : Operand} {lo hi : Option Operand} {n : Nat} {i : TypeInfo} (ho : o.op = .slice t x lo hi none) (ht : P.underlying t = some (.array n el)) (hi' : P.info? el = some i) (hn : n < 16777216) (he : i.size < 256) :
    OpV P K o (opSlP n i.size (cOp K x) (lo.map (cOp K)) (hi.map (cOp K))) := .pure fun g st a w z st' _ hr0 hy e => by
  unfold opSlP at e
  obtain ⟨h1, e⟩ := sel_ok e
  obtain ⟨h2, e⟩ := sel_ok e
  obtain ⟨h3, e⟩ := sel_ok e
  obtain ⟨h4, e⟩ := sel_ok e
  obtain ⟨h5, e⟩ := sel_ok e
  obtain ⟨h6, e⟩ := sel_ok e
  injection e with e1 e2
  have h4 := ble_t h4
  have h5 := ble_t h5
  have h6 := ble_t h6
  simp only [nA, nM, Ev.nS, Ev.nR] at e1 h6
  have hl : ∀ y, lo = some y → TR g st.R st.nR (rd st.T (cOp K y)) (a.eval y) := fun y hl => hy y (by simp [ho, Op.operands, hl])
  have hh : ∀ y, hi = some y → TR g st.R st.nR (rd st.T (cOp K y)) (a.eval y) := fun y hl => hy y (by simp [ho, Op.operands, hl])
  obtain ⟨blk, base, room, a1, a2, a3, a4, a5, a6⟩ := (hy x (by simp [ho, Op.operands])).ptr (beq_t h3)
  obtain ⟨c, ct, fr, hc⟩ := hr0.cells _ _ _ _ _ a5
  have hroom := hc.room
  have hb := run_bounds (P := P) hl hh h1 h2 false h4 h5 (Nat.le_refl n) w
  have hz : z = eSli (ps (rd st.T (cOp K x))) (pz (rd st.T (cOp K x))) (bnd st.T (hi.map (cOp K)) n - bnd st.T (lo.map (cOp K)) 0) i.size (po (rd st.T (cOp K x)) + bnd st.T (lo.map (cOp K)) 0 * i.size) := by
    rw [← e1]
    have : rd st.T (cOp K x) % 4503599627370496 = 5 + 16 * ps (rd st.T (cOp K x)) + 268435456 * pz (rd st.T (cOp K x)) := by
      conv => lhs; rw [a1]
      unfold ePtr; omega
    rw [this]
    unfold eSli
    omega
  generalize bnd st.T (lo.map (cOp K)) 0 = l at *
  generalize bnd st.T (hi.map (cOp K)) n = h at *
  have hmul : ∀ u v : Nat, u ≤ v → u * i.size ≤ v * i.size := fun u v huv => Nat.mul_le_mul_right _ huv
  have m1 := hmul h n h5
  have m2 : (h - l) * i.size = h * i.size - l * i.size := Nat.sub_mul _ _ _
  have m3 : (n - l) * i.size = n * i.size - l * i.size := Nat.sub_mul _ _ _
  have m4 := hmul l h h4
  refine ⟨e2.symm, .slice (some (if n = l then ⟨blk, base + po (rd st.T (cOp K x)), none⟩ else Addr.add ⟨blk, base + po (rd st.T (cOp K x)), none⟩ (l * i.size))) (h - l) (n - l), ?_, ?_⟩
  · simp only [execOp, ho, Instr.sliceAt, run_underlying ht, a2, Instr.sureAddr, Option.map_none, Sem.run_bind, hb, Result.andThen_ok, run_siz hi', Sem.run_pure]
  · rw [hz]
    have hb2 : po (rd st.T (cOp K x)) + l * i.size + (h - l) * i.size ≤ pz (rd st.T (cOp K x)) := by omega
    by_cases hc : n = l
    · rw [if_pos hc]
      exact .cell _ _ (.sli _ _ _ _ _ blk base room _ _ a3 a4 (by omega) he a5 hb2 (by omega) (.inl (by omega)))
    · rw [if_neg hc]
      refine .cell _ _ (.sli _ _ _ _ _ blk base room _ _ a3 a4 (by omega) he a5 hb2 (by omega) (.inr ⟨?_, by omega⟩))
      show Addr.add _ _ = _
      rw [add_none, Nat.add_assoc]

/-- A part of a string. -/
noncomputable def opSlS (x : Opd) (lo hi : Option Opd) (st : St) : RS :=
  sel (bndB st.T lo) (sel (bndB st.T hi) (sel (Nat.beq (Nat.mod (rd st.T x) 16) 3) (sel (Nat.ble (bnd st.T lo 0) (bnd st.T hi (ln (rd st.T x)))) (sel (Nat.ble (bnd st.T hi (ln (rd st.T x))) (ln (rd st.T x))) (sel (Nat.blt (Nat.add (sa (rd st.T x)) (bnd st.T lo 0)) 4294967296)
    (.ok (Nat.add (Nat.add 3 (Nat.mul 16 (Nat.sub (bnd st.T hi (ln (rd st.T x))) (bnd st.T lo 0)))) (Nat.mul 268435456 (Nat.add (sa (rd st.T x)) (bnd st.T lo 0)))) st) .no) .no) .no) .no) .no) .no
theorem opSlS_ok {t : TypeId} {x : Operand} {lo hi : Option Operand} (ho : o.op = .slice t x lo hi none) (ht : P.underlying t = some .string) : OpV P K o (opSlS (cOp K x) (lo.map (cOp K)) (hi.map (cOp K))) := .pure fun g st a w z st' _ hr0 hy e => by
  unfold opSlS at e
  obtain ⟨h1, e⟩ := sel_ok e
  obtain ⟨h2, e⟩ := sel_ok e
  obtain ⟨h3, e⟩ := sel_ok e
  obtain ⟨h4, e⟩ := sel_ok e
  obtain ⟨h5, e⟩ := sel_ok e
  obtain ⟨h6, e⟩ := sel_ok e
  injection e with e1 e2
  have h4 := ble_t h4
  have h5 := ble_t h5
  have h6 := blt_t h6
  simp only [nA, nM, Ev.nS] at e1 h6
  have hl : ∀ y, lo = some y → TR g st.R st.nR (rd st.T (cOp K y)) (a.eval y) := fun y hl => hy y (by simp [ho, Op.operands, hl])
  have hh : ∀ y, hi = some y → TR g st.R st.nR (rd st.T (cOp K y)) (a.eval y) := fun y hl => hy y (by simp [ho, Op.operands, hl])
  obtain ⟨a1, a2, a3, a4, a5⟩ := (hy x (by simp [ho, Op.operands])).str (beq_t h3)
  have hb := run_bounds (P := P) hl hh h1 h2 false h4 h5 (Nat.le_refl _) w
  generalize bnd st.T (lo.map (cOp K)) 0 = l at *
  generalize bnd st.T (hi.map (cOp K)) (ln (rd st.T (cOp K x))) = h at *
  refine ⟨e2.symm, .string (strOf g.S (sa (rd st.T (cOp K x)) + l) (h - l)), ?_, ?_⟩
  · simp only [execOp, ho, Instr.sliceAt, Instr.slice, run_underlying ht, a2, Option.map_none, Option.isSome_none, Sem.run_bind, Result.andThen_ok, strOf_size, Sem.run_pure]
    rw [if_neg (by decide)]
    simp only [Sem.run_bind, hb, Result.andThen_ok, Sem.run_pure, strOf_extract _ _ _ _ _ h5]
  · have : z = eStr (sa (rd st.T (cOp K x)) + l) (h - l) := by rw [← e1]; rfl
    rw [this]
    exact .cell _ _ (.str _ _ (by omega) (by omega) h6)

end
end Ev
end Go.Proofs.YtgdibfnpkcdiiaaGreatDoor
