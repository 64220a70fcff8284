/- Operations on integers, bools and strings, reckoned on words. No condition. -/
import Derived.Test.YtgdibfnpkcdiiaaGreatDoorEvF
import Derived.Laws.Entries
import Derived.Laws.Strings
import Derived.Laws.BitsAllLaws
namespace Go.Proofs.YtgdibfnpkcdiiaaGreatDoor
namespace Ev

/-- A word's integer, and an integer's word (0: none). -/
def dI (w : Nat) : Int := Int.sub (Int.ofNat (Nat.div w 256)) 9223372036854775808
noncomputable def eI (k : IntKind) (n : Int) : Nat := sel (decide (-9223372036854775808 ≤ n) && decide (n < 18446744073709551616)) (eInt k n) 0

theorem dI_eInt (k : IntKind) (n : Int) (h : -9223372036854775808 ≤ n) : dI (eInt k n) = n := by
  have := kc_lt k
  show ((eInt k n / 256 : Nat) : Int) - 9223372036854775808 = n
  unfold eInt
  omega
theorem eInt_mod (k : IntKind) (n : Int) : eInt k n % 256 = 2 + 16 * kc k := by have := kc_lt k; unfold eInt; omega
theorem eI_ok (g : Gh) (k : IntKind) (n : Int) (h : eI k n ≠ 0) : VR g (eI k n) (.int k n) := by
  unfold eI at *
  cases hb : (decide (-9223372036854775808 ≤ n) && decide (n < 18446744073709551616)) with
  | false => rw [hb] at h; exact absurd rfl h
  | true =>
    simp only [Bool.and_eq_true, decide_eq_true_eq] at hb
    exact .int k n hb.1 hb.2

theorem TR.int {g : Gh} {R nR w : Nat} {v : Value} {k : IntKind} (h : TR g R nR w v) (hm : w % 256 = 2 + 16 * kc k) : ∃ n, w = eInt k n ∧ v = .int k n ∧ -9223372036854775808 ≤ n ∧ n < 18446744073709551616 := by
  have := kc_lt k
  obtain ⟨k', n, e1, e2, h1, h2⟩ := (h.cell_inv (by omega) (by omega) (by omega) (by omega)).int_inv (by omega)
  have e := eInt_mod k' n
  rw [← e1, hm] at e
  have : k' = k := kc_inj (by omega)
  subst this
  exact ⟨n, e1, e2, h1, h2⟩
theorem TR.int' {g : Gh} {R nR w : Nat} {v : Value} (h : TR g R nR w v) (hm : w % 16 = 2) : ∃ k n, w = eInt k n ∧ v = .int k n ∧ -9223372036854775808 ≤ n ∧ n < 18446744073709551616 :=
  (h.cell_inv (by omega) (by omega) (by omega) (by omega)).int_inv hm

section
variable {P : Program} {K : Kon} {o : Oper}

/-- What a comparison tells. -/
def cmpI : BinOp → Int → Int → Option Bool
  | .eql, a, b => some (a == b)
  | .neq, a, b => some (a != b)
  | .lss, a, b => some (decide (a < b))
  | .leq, a, b => some (decide (a ≤ b))
  | .gtr, a, b => some (decide (a > b))
  | .geq, a, b => some (decide (a ≥ b))
  | _, _, _ => none
noncomputable def cmpW : BinOp → Nat → Nat → Nat
  | .eql, a, b => sel (Nat.beq a b) 17 1
  | .neq, a, b => sel (Nat.beq a b) 1 17
  | .lss, a, b => sel (Nat.blt a b) 17 1
  | .leq, a, b => sel (Nat.ble a b) 17 1
  | .gtr, a, b => sel (Nat.blt b a) 17 1
  | .geq, a, b => sel (Nat.ble b a) 17 1
  | _, _, _ => 0

theorem eBool_eq (b : Bool) : eBool b = sel b 17 1 := rfl
theorem cmpW_eq (op : BinOp) (k : IntKind) (a b : Int) (ha : -9223372036854775808 ≤ a) (hb : -9223372036854775808 ≤ b) {r : Bool} (h : cmpI op a b = some r) : cmpW op (eInt k a) (eInt k b) = eBool r := by
  have hk := kc_lt k
  have e1 : Nat.beq (eInt k a) (eInt k b) = (a == b) := by
    cases hh : (a == b) with
    | true => rw [eq_of_beq hh]; exact Nat.beq_refl _
    | false =>
      refine Bool.eq_false_iff.2 fun hc => ?_
      have := beq_t hc
      unfold eInt at this
      exact absurd (show a = b by omega) (by simpa using hh)
  have e2 : ∀ a b : Int, -9223372036854775808 ≤ a → -9223372036854775808 ≤ b → Nat.ble (eInt k a) (eInt k b) = decide (a ≤ b) := fun a b ha hb => by
    rw [Bool.eq_iff_iff]
    simp only [Nat.ble_eq, decide_eq_true_eq]
    unfold eInt
    omega
  have e3 : ∀ a b : Int, -9223372036854775808 ≤ a → -9223372036854775808 ≤ b → Nat.blt (eInt k a) (eInt k b) = decide (a < b) := fun a b ha hb => by
    rw [Bool.eq_iff_iff]
    simp only [Nat.blt_eq, decide_eq_true_eq]
    unfold eInt
    omega
  cases op <;> simp only [cmpI, Option.some.injEq, reduceCtorEq] at h <;> subst h <;> simp only [cmpW, e1, e2 _ _ ha hb, e2 _ _ hb ha, e3 _ _ ha hb, e3 _ _ hb ha, eBool_eq, gt_iff_lt, ge_iff_le]
  cases hh : (a == b) <;> simp [sel, bne, hh]

theorem run_cmp (t _u : TypeId) (_x _y : Operand) (op : BinOp) (k : IntKind) (a b : Int) (w : World) {r : Bool} (h : cmpI op a b = some r) :
    (binOp op t (.int k a) (.int k b)).run P w = .ok (.bool r) w := by
  cases op <;> simp only [cmpI, Option.some.injEq, reduceCtorEq] at h <;> subst h <;> simp [binOp, Op.intCmp]

noncomputable def opCmp (op : BinOp) (c : Nat) (x y : Opd) (st : St) : RS :=
  sel (Nat.beq (Nat.mod (rd st.T x) 256) c) (sel (Nat.beq (Nat.mod (rd st.T y) 256) c) (.ok (cmpW op (rd st.T x) (rd st.T y)) st) .no) .no
def isCmp : BinOp → Bool
  | .eql | .neq | .lss | .leq | .gtr | .geq => true
  | _ => false
theorem opCmp_ok {op : BinOp} {t u : TypeId} {x y : Operand} {k : IntKind} (ho : o.op = .binOp op t x y u) (hc : isCmp op = true) : OpV P K o (opCmp op (2 + 16 * kc k) (cOp K x) (cOp K y)) := .pure fun g st a w z st' _ _ hy e => by
  unfold opCmp at e
  obtain ⟨h1, e⟩ := sel_ok e
  obtain ⟨h2, e⟩ := sel_ok e
  injection e with e1 e2
  obtain ⟨n, a1, a2, a3, _⟩ := (hy x (by simp [ho, Op.operands])).int (beq_t h1)
  obtain ⟨m, b1, b2, b3, _⟩ := (hy y (by simp [ho, Op.operands])).int (beq_t h2)
  obtain ⟨r, hr⟩ : ∃ r, cmpI op n m = some r := by cases op <;> first | exact ⟨_, rfl⟩ | cases hc
  rw [a1, b1, cmpW_eq op k n m a3 b3 hr] at e1
  refine ⟨e2.symm, .bool r, ?_, by rw [← e1]; exact .cell _ _ (.bool r)⟩
  simp only [execOp, ho, a2, b2, Sem.run_bind, eqGuard_at_int]
  simp [run_cmp t u x y op k n m w hr]

/-- Arithmetic, slowly. -/
def intBin (op : BinOp) (k : IntKind) (n m : Int) : Option Int :=
  match op with
  | .add => some (k.wrap (n + m))
  | .sub => some (k.wrap (n - m))
  | .mul => some (k.wrap (n * m))
  | .quo => if m = 0 then none else some (k.wrap (n.tdiv m))
  | .rem => if m = 0 then none else some (n.tmod m)
  | .and => some (k.wrap (BitVec.ofInt k.bits n &&& BitVec.ofInt k.bits m).toNat)
  | .or => some (k.wrap (BitVec.ofInt k.bits n ||| BitVec.ofInt k.bits m).toNat)
  | .xor => some (k.wrap (BitVec.ofInt k.bits n ^^^ BitVec.ofInt k.bits m).toNat)
  | .andNot => some (k.wrap (BitVec.ofInt k.bits n &&& ~~~ BitVec.ofInt k.bits m).toNat)
  | .shl => if m < 0 then none else some (k.wrap (n * 2 ^ min m.toNat k.bits))
  | .shr => if m < 0 then none else some (n.fdiv (2 ^ min m.toNat k.bits))
  | _ => none
def isShift : BinOp → Bool
  | .shl | .shr => true
  | _ => false
theorem run_intBin (t : TypeId) (op : BinOp) (k j : IntKind) (n m : Int) (w : World) {r : Int} (h : intBin op k n m = some r) (hj : isShift op = true ∨ j = k) :
    (binOp op t (.int k n) (.int j m)).run P w = .ok (.int k r) w := by
  cases op <;> simp only [intBin, reduceCtorEq, Option.some.injEq] at h <;>
    first
    | (have hj := hj.resolve_left (by decide); subst hj; subst h; simp [binOp, Op.intArith, Op.intBits]; done)
    | (have hj := hj.resolve_left (by decide); subst hj; split at h <;> first | (cases h; done) | (rename_i h0; injection h with h; subst h; simp [binOp, Op.intDiv, h0]; done))
    | (split at h <;> first | (cases h; done) | (rename_i h0; injection h with h; subst h; simp [binOp, Op.shift, h0]; done))

noncomputable def opInt (op : BinOp) (k : IntKind) (c : Nat) (x y : Opd) (st : St) : RS :=
  sel (Nat.beq (Nat.mod (rd st.T x) 256) c) (sel (sel (isShift op) (Nat.beq (Nat.mod (rd st.T y) 16) 2) (Nat.beq (Nat.mod (rd st.T y) 256) c))
    (Option.rec .no (fun r => fc (eI k r) fun z => sel (Nat.beq z 0) .no (.ok z st)) (intBin op k (dI (rd st.T x)) (dI (rd st.T y)))) .no) .no
theorem opInt_ok {op : BinOp} {t u : TypeId} {x y : Operand} {k : IntKind} (ho : o.op = .binOp op t x y u) : OpV P K o (opInt op k (2 + 16 * kc k) (cOp K x) (cOp K y)) := .pure fun g st a w z st' _ _ hy e => by
  unfold opInt at e
  obtain ⟨h1, e⟩ := sel_ok e
  obtain ⟨h2, e⟩ := sel_ok e
  obtain ⟨n, a1, a2, a3, _⟩ := (hy x (by simp [ho, Op.operands])).int (beq_t h1)
  have hb : ∃ j m, rd st.T (cOp K y) = eInt j m ∧ a.eval y = .int j m ∧ -9223372036854775808 ≤ m ∧ (isShift op = true ∨ j = k) := by
    cases hs : isShift op with
    | true =>
      rw [hs, sel_true] at h2
      obtain ⟨j, m, b1, b2, b3, _⟩ := (hy y (by simp [ho, Op.operands])).int' (beq_t h2)
      exact ⟨j, m, b1, b2, b3, .inl rfl⟩
    | false =>
      rw [hs, sel_false] at h2
      obtain ⟨m, b1, b2, b3, _⟩ := (hy y (by simp [ho, Op.operands])).int (beq_t h2)
      exact ⟨k, m, b1, b2, b3, .inr rfl⟩
  obtain ⟨j, m, b1, b2, b3, hj⟩ := hb
  rw [a1, b1, dI_eInt k n a3, dI_eInt j m b3] at e
  cases hr : intBin op k n m with
  | none => rw [hr] at e; cases e
  | some r =>
    rw [hr] at e
    simp only [fc_eq] at e
    cases h0 : Nat.beq (eI k r) 0 with
    | true => rw [h0, sel_true] at e; cases e
    | false =>
      rw [h0, sel_false] at e
      injection e with e1 e2
      have hne : eI k r ≠ 0 := fun hc => by rw [hc] at h0; exact absurd h0 (by decide)
      refine ⟨e2.symm, .int k r, ?_, by rw [← e1]; exact .cell _ _ (eI_ok g k r hne)⟩
      simp only [execOp, ho, a2, b2, Sem.run_bind, eqGuard_at_int]
      simp [run_intBin t op k j n m w hr hj]

/-- Sums and differences that stay in their kind. -/
theorem wrap_id {k : IntKind} {n : Int} (h1 : k.min ≤ n) (h2 : n ≤ k.max) : k.wrap n = n := by
  cases k <;> simp [IntKind.wrap, IntKind.min, IntKind.max, IntKind.bits, IntKind.signed] at * <;> omega
theorem min_ge (k : IntKind) : -9223372036854775808 ≤ k.min := by cases k <;> decide
theorem max_lt (k : IntKind) : k.max < 18446744073709551616 := by cases k <;> decide

noncomputable def opAdd (c off lo hi : Nat) (x y : Opd) (st : St) : RS :=
  sel (Nat.beq (Nat.mod (rd st.T x) 256) c) (sel (Nat.beq (Nat.mod (rd st.T y) 256) c)
    (fc (Nat.sub (Nat.add (rd st.T x) (rd st.T y)) off) fun z => sel (Nat.ble lo z) (sel (Nat.ble z hi) (.ok z st) .no) .no) .no) .no
noncomputable def opSub (c off lo hi : Nat) (x y : Opd) (st : St) : RS :=
  sel (Nat.beq (Nat.mod (rd st.T x) 256) c) (sel (Nat.beq (Nat.mod (rd st.T y) 256) c)
    (fc (Nat.sub (Nat.add (rd st.T x) off) (rd st.T y)) fun z => sel (Nat.ble lo z) (sel (Nat.ble z hi) (.ok z st) .no) .no) .no) .no

theorem opAdd_ok {t u : TypeId} {x y : Operand} {k : IntKind} (ho : o.op = .binOp .add t x y u) : OpV P K o (opAdd (2 + 16 * kc k) (eInt k 0) (eInt k k.min) (eInt k k.max) (cOp K x) (cOp K y)) := .pure fun g st a w z st' _ _ hy e => by
  unfold opAdd at e
  obtain ⟨h1, e⟩ := sel_ok e
  obtain ⟨h2, e⟩ := sel_ok e
  rw [fc_eq] at e
  obtain ⟨h3, e⟩ := sel_ok e
  obtain ⟨h4, e⟩ := sel_ok e
  injection e with e1 e2
  have h3 := ble_t h3
  have h4 := ble_t h4
  obtain ⟨n, a1, a2, a3, _⟩ := (hy x (by simp [ho, Op.operands])).int (beq_t h1)
  obtain ⟨m, b1, b2, b3, _⟩ := (hy y (by simp [ho, Op.operands])).int (beq_t h2)
  rw [a1, b1] at e1 h3 h4
  have hk := kc_lt k
  have hmn := min_ge k
  have hmx := max_lt k
  have hge : -9223372036854775808 ≤ n + m := by
    change eInt k k.min ≤ eInt k n + eInt k m - eInt k 0 at h3
    unfold eInt at h3
    omega
  have hz : Nat.sub (Nat.add (eInt k n) (eInt k m)) (eInt k 0) = eInt k (n + m) := by
    show eInt k n + eInt k m - eInt k 0 = _
    change eInt k k.min ≤ eInt k n + eInt k m - eInt k 0 at h3
    have h5 : k.min ≤ k.max := by cases k <;> decide
    unfold eInt at *
    omega
  rw [hz] at e1 h3 h4
  have r1 : k.min ≤ n + m := by unfold eInt at h3; have : k.min ≤ 0 := by (cases k <;> decide)
                                omega
  have r2 : n + m ≤ k.max := by unfold eInt at h4; have : 0 ≤ k.max := by (cases k <;> decide)
                                omega
  refine ⟨e2.symm, .int k (n + m), ?_, by rw [← e1]; exact .cell _ _ (.int k _ (by omega) (by omega))⟩
  simp only [execOp, ho, a2, b2, Sem.run_bind, eqGuard_at_int]
  simp [binOp, Op.intArith, wrap_id r1 r2]

theorem opSub_ok {t u : TypeId} {x y : Operand} {k : IntKind} (ho : o.op = .binOp .sub t x y u) : OpV P K o (opSub (2 + 16 * kc k) (eInt k 0) (eInt k k.min) (eInt k k.max) (cOp K x) (cOp K y)) := .pure fun g st a w z st' _ _ hy e => by
  unfold opSub at e
  obtain ⟨h1, e⟩ := sel_ok e
  obtain ⟨h2, e⟩ := sel_ok e
  rw [fc_eq] at e
  obtain ⟨h3, e⟩ := sel_ok e
  obtain ⟨h4, e⟩ := sel_ok e
  injection e with e1 e2
  have h3 := ble_t h3
  have h4 := ble_t h4
  obtain ⟨n, a1, a2, a3, _⟩ := (hy x (by simp [ho, Op.operands])).int (beq_t h1)
  obtain ⟨m, b1, b2, b3, _⟩ := (hy y (by simp [ho, Op.operands])).int (beq_t h2)
  rw [a1, b1] at e1 h3 h4
  have hk := kc_lt k
  have hmn := min_ge k
  have hmx := max_lt k
  have hge : -9223372036854775808 ≤ n - m := by
    change eInt k k.min ≤ eInt k n + eInt k 0 - eInt k m at h3
    unfold eInt at h3
    omega
  have hz : Nat.sub (Nat.add (eInt k n) (eInt k 0)) (eInt k m) = eInt k (n - m) := by
    show eInt k n + eInt k 0 - eInt k m = _
    change eInt k k.min ≤ eInt k n + eInt k 0 - eInt k m at h3
    unfold eInt at *
    omega
  rw [hz] at e1 h3 h4
  have r1 : k.min ≤ n - m := by unfold eInt at h3; have : k.min ≤ 0 := by (cases k <;> decide)
                                omega
  have r2 : n - m ≤ k.max := by unfold eInt at h4; have : 0 ≤ k.max := by (cases k <;> decide)
                                omega
  refine ⟨e2.symm, .int k (n - m), ?_, by rw [← e1]; exact .cell _ _ (.int k _ (by omega) (by omega))⟩
  simp only [execOp, ho, a2, b2, Sem.run_bind, eqGuard_at_int]
  simp [binOp, Op.intArith, wrap_id r1 r2]
end
end Ev
end Go.Proofs.YtgdibfnpkcdiiaaGreatDoor
