/- Further operations on words: bools, strings, comparisons with nil, lengths, parts of rows, places. No condition. -/
import Derived.Test.YtgdibfnpkcdiiaaGreatDoorJG
namespace Go.Proofs.YtgdibfnpkcdiiaaGreatDoor
namespace Ev

section
variable {P : Program} {K : Kon} {o : Oper}

theorem run_siz {t : TypeId} {i : TypeInfo} (h : P.info? t = some i) (w : World) : (sizeOf t).run P w = .ok i.size w := by simp [sizeOf, typeInfo, h]
theorem run_typ {t : TypeId} {i : TypeInfo} (h : P.info? t = some i) (w : World) : (typeInfo t).run P w = .ok i w := by simp [typeInfo, h]
def aggB : TypeDesc → Bool
  | .struct _ | .array _ _ => true
  | _ => false
theorem run_aggB {t : TypeId} {d : TypeDesc} (h : P.underlying t = some d) (w : World) : (isAgg t).run P w = .ok (aggB d) w := by
  cases d <;> simp [isAgg, run_underlying h, aggB]
theorem add_none (b o k : Nat) : (⟨b, o, none⟩ : Addr).add k = ⟨b, o + k, none⟩ := by unfold Addr.add; split <;> simp_all

/-! ### bools -/
noncomputable def opNot (x : Opd) (st : St) : RS := sel (Nat.beq (rd st.T x) 17) (.ok 1 st) (sel (Nat.beq (rd st.T x) 1) (.ok 17 st) .no)
theorem TR.bool17 {g : Gh} {R nR w : Nat} {v : Value} (h : TR g R nR w v) (e : w = 17) : v = .bool true := by
  obtain ⟨b, e1, e2⟩ := (h.cell_inv (by omega) (by omega) (by omega) (by omega)).bool_inv (by omega)
  cases b with
  | true => exact e2
  | false => rw [e] at e1; exact absurd e1 (by decide)
theorem TR.bool1 {g : Gh} {R nR w : Nat} {v : Value} (h : TR g R nR w v) (e : w = 1) : v = .bool false := by
  obtain ⟨b, e1, e2⟩ := (h.cell_inv (by omega) (by omega) (by omega) (by omega)).bool_inv (by omega)
  cases b with
  | false => exact e2
  | true => rw [e] at e1; exact absurd e1 (by decide)

theorem opNot_ok {t : TypeId} {x : Operand} (ho : o.op = .unOp .not t x) : OpV P K o (opNot (cOp K x)) := .pure fun g st a w z st' _ _ hy e => by
  unfold opNot at e
  have hx := hy x (by simp [ho, Op.operands])
  cases h1 : Nat.beq (rd st.T (cOp K x)) 17 with
  | true =>
    rw [h1, sel_true] at e
    injection e with e1 e2
    refine ⟨e2.symm, .bool false, ?_, by rw [← e1]; exact .cell _ _ (.bool false)⟩
    simp [execOp, ho, hx.bool17 (beq_t h1), Op.unary]
  | false =>
    rw [h1, sel_false] at e
    obtain ⟨h2, e⟩ := sel_ok e
    injection e with e1 e2
    refine ⟨e2.symm, .bool true, ?_, by rw [← e1]; exact .cell _ _ (.bool true)⟩
    simp [execOp, ho, hx.bool1 (beq_t h2), Op.unary]

noncomputable def opNeg (k : IntKind) (c : Nat) (x : Opd) (st : St) : RS :=
  sel (Nat.beq (Nat.mod (rd st.T x) 256) c) (fc (eI k (k.wrap (Int.sub 0 (dI (rd st.T x))))) fun z => sel (Nat.beq z 0) .no (.ok z st)) .no
theorem sel_no {b : Bool} {x : RS} {w : Nat} {st : St} (h : sel b .no x = .ok w st) : b = false ∧ x = .ok w st := by
  cases b with
  | false => exact ⟨rfl, h⟩
  | true => cases h
theorem beq_f {a b : Nat} (h : Nat.beq a b = false) : a ≠ b := Nat.ne_of_beq_eq_false h
theorem opNeg_ok {t : TypeId} {x : Operand} {k : IntKind} (ho : o.op = .unOp .neg t x) : OpV P K o (opNeg k (2 + 16 * kc k) (cOp K x)) := .pure fun g st a w z st' _ _ hy e => by
  unfold opNeg at e
  obtain ⟨h1, e⟩ := sel_ok e
  rw [fc_eq] at e
  obtain ⟨h2, e⟩ := sel_no e
  injection e with e1 e2
  obtain ⟨n, a1, a2, a3, _⟩ := (hy x (by simp [ho, Op.operands])).int (beq_t h1)
  rw [a1, dI_eInt k n a3] at e1 h2
  refine ⟨e2.symm, .int k (k.wrap (0 - n)), ?_, by rw [← e1]; exact .cell _ _ (eI_ok g k _ (beq_f h2))⟩
  simp [execOp, ho, a2, Op.unary, Op.intArith]

noncomputable def opConv (k : IntKind) (x : Opd) (st : St) : RS :=
  sel (Nat.beq (Nat.mod (rd st.T x) 16) 2) (fc (eI k (k.wrap (dI (rd st.T x)))) fun z => sel (Nat.beq z 0) .no (.ok z st)) .no
theorem opConv_ok {s d : TypeId} {x : Operand} {k : IntKind} {u : TypeDesc} (ho : o.op = .convert s d x) (hs : P.underlying s = some u) (hd : P.underlying d = some (.int k)) : OpV P K o (opConv k (cOp K x)) := .pure fun g st a w z st' _ _ hy e => by
  unfold opConv at e
  obtain ⟨h1, e⟩ := sel_ok e
  rw [fc_eq] at e
  obtain ⟨h2, e⟩ := sel_no e
  injection e with e1 e2
  obtain ⟨j, n, a1, a2, a3, _⟩ := (hy x (by simp [ho, Op.operands])).int' (beq_t h1)
  rw [a1, dI_eInt j n a3] at e1 h2
  refine ⟨e2.symm, .int k (k.wrap n), ?_, by rw [← e1]; exact .cell _ _ (eI_ok g k _ (beq_f h2))⟩
  cases u <;> simp [execOp, ho, a2, convert, run_underlying hs, run_underlying hd, Conv.intToInt]

/-- A conversion that changes nothing: a string, of a type of strings. -/
theorem opSame_ok {s d : TypeId} {x : Operand} {u : TypeDesc} (ho : o.op = .convert s d x) (hs : P.underlying s = some u) (hd : P.underlying d = some .string) :
    OpV P K o (fun st => sel (Nat.beq (Nat.mod (rd st.T (cOp K x)) 16) 3) (.ok (rd st.T (cOp K x)) st) .no) := .pure fun g st a w z st' _ _ hy e => by
  obtain ⟨h1, e⟩ := sel_ok e
  injection e with e1 e2
  have hx := hy x (by simp [ho, Op.operands])
  have h1 : rd st.T (cOp K x) % 16 = 3 := beq_t h1
  obtain ⟨q, l, a1, a2, _⟩ := (hx.cell_inv (by omega) (by omega) (by omega) (by omega)).str_inv h1
  refine ⟨e2.symm, a.eval x, ?_, by rw [← e1]; exact hx⟩
  cases u <;> simp [execOp, ho, a2, convert, run_underlying hs, run_underlying hd]

/-! ### strings -/
def ln (w : Nat) : Nat := Nat.mod (Nat.div w 16) 16777216
def sa (w : Nat) : Nat := Nat.div w 268435456
theorem ln_eStr {st l : Nat} (h : l < 16777216) : ln (eStr st l) = l := by show eStr st l / 16 % 16777216 = l; unfold eStr; omega
theorem sa_eStr {st l : Nat} (h : l < 16777216) : sa (eStr st l) = st := by show eStr st l / 268435456 = st; unfold eStr; omega
theorem TR.str {g : Gh} {R nR w : Nat} {v : Value} (h : TR g R nR w v) (hm : w % 16 = 3) : w = eStr (sa w) (ln w) ∧ v = .string (strOf g.S (sa w) (ln w)) ∧ ln w < 16777216 ∧ sa w + ln w ≤ g.nS ∧ sa w < 4294967296 := by
  obtain ⟨s, l, e1, e2, h1, h2, h3⟩ := (h.cell_inv (by omega) (by omega) (by omega) (by omega)).str_inv hm
  subst e1
  rw [ln_eStr h1, sa_eStr h1]
  exact ⟨rfl, e2, h1, h2, h3⟩

noncomputable def strEq (S x y : Nat) : Bool := sel (Nat.beq x y) true (sel (Nat.beq (ln x) (ln y)) (Nat.beq (chS S (sa x) (ln x)) (chS S (sa y) (ln y))) false)
theorem strEq_ok {S x y : Nat} (_hx : x = eStr (sa x) (ln x)) (_hy : y = eStr (sa y) (ln y)) : strEq S x y = decide (strOf S (sa x) (ln x) = strOf S (sa y) (ln y)) := by
  unfold strEq
  cases h1 : Nat.beq x y with
  | true => rw [sel_true, beq_t h1]; simp
  | false =>
    rw [sel_false]
    cases h2 : Nat.beq (ln x) (ln y) with
    | true =>
      have h2 := beq_t h2
      rw [sel_true, Bool.eq_iff_iff, decide_eq_true_eq, h2, strOf_eq_iff]
      exact Nat.beq_eq ▸ Iff.rfl
    | false =>
      rw [sel_false]
      symm
      refine decide_eq_false fun h => beq_f h2 ?_
      have := congrArg ByteArray.size h
      rwa [strOf_size, strOf_size] at this
theorem str_beq (x y : ByteArray) : (x.toList == y.toList) = decide (x = y) := by
  rw [ByteArray.toList_eq, ByteArray.toList_eq, Bool.eq_iff_iff, beq_iff_eq, decide_eq_true_eq]
  exact ⟨fun h => ByteArray.ext (Array.ext' h), fun h => by rw [h]⟩

noncomputable def opStr (neg : Bool) (x y : Opd) (st : St) : RS :=
  sel (Nat.beq (Nat.mod (rd st.T x) 16) 3) (sel (Nat.beq (Nat.mod (rd st.T y) 16) 3) (.ok (sel (strEq st.S (rd st.T x) (rd st.T y)) (sel neg 1 17) (sel neg 17 1)) st) .no) .no
theorem opStr_ok {t u : TypeId} {x y : Operand} (neg : Bool) (ho : o.op = .binOp (if neg then .neq else .eql) t x y u) : OpV P K o (opStr neg (cOp K x) (cOp K y)) := .pure fun g st a w z st' _ hh hy e => by
  unfold opStr at e
  obtain ⟨h1, e⟩ := sel_ok e
  obtain ⟨h2, e⟩ := sel_ok e
  injection e with e1 e2
  obtain ⟨a1, a2, _⟩ := (hy x (by simp [ho, Op.operands])).str (beq_t h1)
  obtain ⟨b1, b2, _⟩ := (hy y (by simp [ho, Op.operands])).str (beq_t h2)
  rw [strEq_ok a1 b1, hh.S] at e1
  generalize strOf g.S (sa (rd st.T (cOp K x))) (ln (rd st.T (cOp K x))) = s1 at *
  generalize strOf g.S (sa (rd st.T (cOp K y))) (ln (rd st.T (cOp K y))) = s2 at *
  refine ⟨e2.symm, .bool (neg ^^ decide (s1 = s2)), ?_, ?_⟩
  · cases neg <;> simp [execOp, ho, a2, b2, eqGuard_at_string, binOp, Op.stringOp, str_beq]
  · rw [← e1]
    cases neg <;> cases decide (s1 = s2) <;> first | exact .cell _ _ (.bool true) | exact .cell _ _ (.bool false)

noncomputable def opCat (x y : Opd) (st : St) : RS :=
  sel (Nat.beq (Nat.mod (rd st.T x) 16) 3) (sel (Nat.beq (Nat.mod (rd st.T y) 16) 3) (sel (Nat.blt (Nat.add (ln (rd st.T x)) (ln (rd st.T y))) 16777216) (sel (Nat.blt st.nS 4294967296)
    (fc (adS st.S st.nS (adS (chS st.S (sa (rd st.T x)) (ln (rd st.T x))) (ln (rd st.T x)) (chS st.S (sa (rd st.T y)) (ln (rd st.T y))))) fun S =>
      .ok (eStr st.nS (Nat.add (ln (rd st.T x)) (ln (rd st.T y)))) (setS S (Nat.add st.nS (Nat.add (ln (rd st.T x)) (ln (rd st.T y)))) st)) .no) .no) .no) .no
theorem opCat_ok {t u : TypeId} {x y : Operand} (ho : o.op = .binOp .add t x y u) : OpV P K o (opCat (cOp K x) (cOp K y)) := fun g st a w z st' _ hh hy e => by
  unfold opCat at e
  obtain ⟨h1, e⟩ := sel_ok e
  obtain ⟨h2, e⟩ := sel_ok e
  obtain ⟨h3, e⟩ := sel_ok e
  obtain ⟨h4, e⟩ := sel_ok e
  rw [fc_eq] at e
  injection e with e1 e2
  obtain ⟨a1, a2, a3, a4, a5⟩ := (hy x (by simp [ho, Op.operands])).str (beq_t h1)
  obtain ⟨b1, b2, b3, b4, b5⟩ := (hy y (by simp [ho, Op.operands])).str (beq_t h2)
  have h3 := blt_t h3
  have h4 := blt_t h4
  change ln (rd st.T (cOp K x)) + ln (rd st.T (cOp K y)) < _ at h3
  change eStr st.nS (ln (rd st.T (cOp K x)) + ln (rd st.T (cOp K y))) = z at e1
  revert e1 e2 h3 a1 a2 a3 a4 a5 b1 b2 b3 b4 b5
  generalize ln (rd st.T (cOp K x)) = l1
  generalize ln (rd st.T (cOp K y)) = l2
  generalize sa (rd st.T (cOp K x)) = s1
  generalize sa (rd st.T (cOp K y)) = s2
  intro e2 a1 a2 a3 a4 a5 b1 b2 b3 b4 b5 h3 e1
  have hx := adS_lt (chS_lt st.S s1 l1) (chS_lt st.S s2 l2)
  obtain ⟨p1, p2⟩ := hh.pool (l1 + l2) _ hx
  refine ⟨_, w, .string (strOf g.S s1 l1 ++ strOf g.S s2 l2), .inl ?_, ⟨by rw [← e2]; exact p1, p2, by rw [← e2]; exact Ext.refl _ _, ?_, by rw [← e2], by rw [← e2]⟩, fun _ => .inl rfl⟩
  · simp only [execOp, ho, a2, b2, Sem.run_bind, eqGuard_at_string]
    simp [binOp, Op.stringOp, strOf_size, IntKind.max, IntKind.signed, IntKind.bits]
    omega
  · rw [← e1]
    refine .cell _ _ ?_
    have hb : ∀ i, i < l1 + l2 → byteAt (adS st.S st.nS (adS (chS st.S s1 l1) l1 (chS st.S s2 l2))) (st.nS + i) = if i < l1 then byteAt st.S (s1 + i) else byteAt st.S (s2 + (i - l1)) := fun i hi => by
      rw [byteAt_adS _ _ hh.Slt, if_neg (by omega), show st.nS + i - st.nS = i by omega, byteAt_adS _ _ (chS_lt st.S s1 l1)]
      by_cases hl : i < l1
      · rw [if_pos hl, if_pos hl, byteAt_chS, if_pos hl]
      · rw [if_neg hl, if_neg hl, byteAt_chS, if_pos (by omega)]
    rw [strOf_append (adS st.S st.nS (adS (chS st.S s1 l1) l1 (chS st.S s2 l2))) st.nS (fun i hi => by rw [hb i (by omega), if_pos hi, hh.S])
      (fun i hi => by rw [Nat.add_assoc, hb _ (by omega), if_neg (by omega), show l1 + i - l1 = i by omega, hh.S])]
    exact .str st.nS (l1 + l2) h3 (Nat.le_refl _) h4

noncomputable def opIxS (x y : Opd) (st : St) : RS :=
  sel (Nat.beq (Nat.mod (rd st.T x) 16) 3) (sel (Nat.beq (Nat.mod (rd st.T y) 16) 2) (sel (Nat.ble 9223372036854775808 (Nat.div (rd st.T y) 256)) (sel (Nat.blt (Nat.sub (Nat.div (rd st.T y) 256) 9223372036854775808) (ln (rd st.T x)))
    (.ok (Nat.add 2361183241434822606914 (Nat.mul 256 (byteAt st.S (Nat.add (sa (rd st.T x)) (Nat.sub (Nat.div (rd st.T y) 256) 9223372036854775808))))) st) .no) .no) .no) .no

theorem eInt_u8 (b : Nat) : eInt .u8 (b : Int) = 2361183241434822606914 + 256 * b := by show 2 + 16 * 4 + 256 * ((b : Int) + 9223372036854775808).toNat = _; omega
theorem eInt_i64 (b : Nat) : eInt .i64 (b : Int) = 2361183241434822606898 + 256 * b := by show 2 + 16 * 3 + 256 * ((b : Int) + 9223372036854775808).toNat = _; omega
/-- An index. -/
theorem TR.ix {g : Gh} {R nR w : Nat} {v : Value} (h : TR g R nR w v) (hm : w % 16 = 2) (h0 : 9223372036854775808 ≤ w / 256) : ∃ k, v = .int k ((w / 256 - 9223372036854775808 : Nat) : Int) := by
  obtain ⟨k, n, e1, e2, h1, h2⟩ := h.int' hm
  refine ⟨k, ?_⟩
  have := kc_lt k
  rw [e2, e1]
  rw [e1] at h0
  unfold eInt at *
  congr 1
  omega

theorem strOf_get (S st l i : Nat) (h : i < l) : (strOf S st l)[i]? = some (UInt8.ofNat (byteAt S (st + i))) := by
  have h1 : i < (strOf S st l).size := by rw [strOf_size]; exact h
  have h2 := strOf_data S st l
  rw [getElem?_pos _ i h1]
  have h3 : (strOf S st l).data.toList[i]? = some (strOf S st l)[i] := by
    rw [List.getElem?_eq_getElem (show i < (strOf S st l).data.toList.length from h1)]; rfl
  rw [h2, List.getElem?_map, List.getElem?_range h] at h3
  rw [← h3]; rfl
theorem byte_toNat (S i : Nat) : (UInt8.ofNat (byteAt S i)).toNat = byteAt S i := by
  rw [UInt8.toNat_ofNat']; exact Nat.mod_eq_of_lt (byteAt_lt _ _)

theorem run_ixS {t : TypeId} (ht : P.underlying t = some .string) (s : ByteArray) (k : IntKind) (i : Nat) (w : World) {b : UInt8} (h : s[i]? = some b) :
    (Instr.index t (.string s) (.int k (i : Int))).run P w = .ok (.int .u8 b.toNat) w := by
  simp [Instr.index, asIntOf, run_underlying ht, h]

theorem opIxS_ok {t : TypeId} {x y : Operand} (ho : o.op = .index t x y) (ht : P.underlying t = some .string) : OpV P K o (opIxS (cOp K x) (cOp K y)) := .pure fun g st a w z st' _ hh hy e => by
  unfold opIxS at e
  obtain ⟨h1, e⟩ := sel_ok e
  obtain ⟨h2, e⟩ := sel_ok e
  obtain ⟨h3, e⟩ := sel_ok e
  obtain ⟨h4, e⟩ := sel_ok e
  injection e with e1 e2
  obtain ⟨a1, a2, a3, a4, a5⟩ := (hy x (by simp [ho, Op.operands])).str (beq_t h1)
  have h3 := ble_t h3
  have h4 := blt_t h4
  simp only [nA, Ev.nS, nM, nD] at h3 h4 e1
  obtain ⟨k, b2⟩ := (hy y (by simp [ho, Op.operands])).ix (beq_t h2) h3
  clear e h3 
  generalize rd st.T (cOp K y) / 256 - 9223372036854775808 = i at *
  refine ⟨e2.symm, .int .u8 (byteAt g.S (sa (rd st.T (cOp K x)) + i) : Nat), ?_, ?_⟩
  · have := run_ixS (P := P) ht (strOf g.S (sa (rd st.T (cOp K x))) (ln (rd st.T (cOp K x)))) k i w (strOf_get _ _ _ _ h4)
    rw [byte_toNat] at this
    simp only [execOp, ho, a2, b2, Sem.run_bind, this, Result.andThen_ok]
    rfl
  · rw [← e1, ← eInt_u8, hh.S]
    exact .cell _ _ (.int _ _ (by omega) (by have := byteAt_lt g.S (sa (rd st.T (cOp K x)) + i); omega))

noncomputable def opLnS (x : Opd) (st : St) : RS := sel (Nat.beq (Nat.mod (rd st.T x) 16) 3) (.ok (Nat.add 2361183241434822606898 (Nat.mul 256 (ln (rd st.T x)))) st) .no
/-- A call of a builtin with one argument. -/
theorem opLnS_ok {t : TypeId} {x : Operand} (ho : o.op = .call { callee := .builtin .len, args := #[x], argTypes := #[t] }) (ht : P.underlying t = some .string) : OpV P K o (opLnS (cOp K x)) := .pure fun g st a w z st' _ _ hy e => by
  unfold opLnS at e
  obtain ⟨h1, e⟩ := sel_ok e
  injection e with e1 e2
  obtain ⟨a1, a2, a3, a4, a5⟩ := (hy x (by simp [ho, Op.operands, Call.operands])).str (beq_t h1)
  refine ⟨e2.symm, .int .i64 (ln (rd st.T (cOp K x)) : Nat), ?_, ?_⟩
  · simp [execOp, ho, resolve, invoke, builtin, Builtin.len_, run_underlying ht, a2, strOf_size, goInt]
  · rw [← e1]
    change TR g st.R st.nR (2361183241434822606898 + 256 * ln (rd st.T (cOp K x))) _
    rw [← eInt_i64]
    exact .cell _ _ (.int _ _ (by omega) (by omega))

end
end Ev
end Go.Proofs.YtgdibfnpkcdiiaaGreatDoor
