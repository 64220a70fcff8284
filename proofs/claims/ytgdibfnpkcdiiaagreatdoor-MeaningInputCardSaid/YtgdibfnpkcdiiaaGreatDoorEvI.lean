/- Pointers and slices as words; loads, stores, allocations; parts of rows. No condition. -/
import Derived.Test.YtgdibfnpkcdiiaaGreatDoorEvH
namespace Go.Proofs.YtgdibfnpkcdiiaaGreatDoor
namespace Ev

def ps (w : Nat) : Nat := Nat.mod (Nat.div w 16) 16777216
def pz (w : Nat) : Nat := Nat.mod (Nat.div w 268435456) 16777216
def po (w : Nat) : Nat := Nat.div w 4503599627370496
def sl (w : Nat) : Nat := Nat.mod (Nat.div w 4503599627370496) 16777216
def se (w : Nat) : Nat := Nat.mod (Nat.div w 75557863725914323419136) 256
def so (w : Nat) : Nat := Nat.div w 19342813113834066795298816

theorem ps_ePtr {s z o : Nat} (hs : s < 16777216) : ps (ePtr s z o) = s := by show ePtr s z o / 16 % 16777216 = s; unfold ePtr; omega
theorem pz_ePtr {s z o : Nat} (hs : s < 16777216) (hz : z < 16777216) : pz (ePtr s z o) = z := by show ePtr s z o / 268435456 % 16777216 = z; unfold ePtr; omega
theorem po_ePtr {s z o : Nat} (hs : s < 16777216) (hz : z < 16777216) : po (ePtr s z o) = o := by show ePtr s z o / 4503599627370496 = o; unfold ePtr; omega
theorem TR.ptr {g : Gh} {R nR w : Nat} {v : Value} (h : TR g R nR w v) (hm : w % 16 = 5) : ∃ blk base room, w = ePtr (ps w) (pz w) (po w) ∧ v = .pointer (some ⟨blk, base + po w, none⟩) ∧
    ps w < 16777216 ∧ pz w < 16777216 ∧ g.rho (ps w) = .cells blk base (pz w) room ∧ po w ≤ pz w := by
  obtain ⟨s, z, o, blk, base, room, e, ev, hs, hz, hr, ho⟩ := (h.cell_inv (by omega) (by omega) (by omega) (by omega)).ptr_inv hm
  subst e
  rw [ps_ePtr hs, pz_ePtr hs hz, po_ePtr hs hz]
  exact ⟨blk, base, room, rfl, ev, hs, hz, hr, ho⟩

theorem ps_eSli {s z l e o : Nat} (hs : s < 16777216) : ps (eSli s z l e o) = s := by show eSli s z l e o / 16 % 16777216 = s; unfold eSli; omega
theorem pz_eSli {s z l e o : Nat} (hs : s < 16777216) (hz : z < 16777216) : pz (eSli s z l e o) = z := by show eSli s z l e o / 268435456 % 16777216 = z; unfold eSli; omega
theorem sl_eSli {s z l e o : Nat} (hs : s < 16777216) (hz : z < 16777216) (hl : l < 16777216) : sl (eSli s z l e o) = l := by show eSli s z l e o / 4503599627370496 % 16777216 = l; unfold eSli; omega
theorem se_eSli {s z l e o : Nat} (hs : s < 16777216) (hz : z < 16777216) (hl : l < 16777216) (he : e < 256) : se (eSli s z l e o) = e := by show eSli s z l e o / 75557863725914323419136 % 256 = e; unfold eSli; omega
theorem so_eSli {s z l e o : Nat} (hs : s < 16777216) (hz : z < 16777216) (hl : l < 16777216) (he : e < 256) : so (eSli s z l e o) = o := by show eSli s z l e o / 19342813113834066795298816 = o; unfold eSli; omega
theorem TR.sli {g : Gh} {R nR w : Nat} {v : Value} (h : TR g R nR w v) (hm : w % 16 = 7) : ∃ blk base room cap a, w = eSli (ps w) (pz w) (sl w) (se w) (so w) ∧ v = .slice (some a) (sl w) cap ∧
    ps w < 16777216 ∧ pz w < 16777216 ∧ sl w < 16777216 ∧ se w < 256 ∧ g.rho (ps w) = .cells blk base (pz w) room ∧ so w + sl w * se w ≤ pz w ∧ sl w ≤ cap ∧
      (cap = 0 ∨ (a = ⟨blk, base + so w, none⟩ ∧ so w + cap * se w ≤ room)) := by
  obtain ⟨s, z, l, e, o, blk, base, room, cap, a, ew, ev, hs, hz, hl, he, hr, ho, hc, ha⟩ := (h.cell_inv (by omega) (by omega) (by omega) (by omega)).sli_inv hm
  subst ew
  rw [ps_eSli hs, pz_eSli hs hz, sl_eSli hs hz hl, se_eSli hs hz hl he, so_eSli hs hz hl he]
  exact ⟨blk, base, room, cap, a, rfl, ev, hs, hz, hl, he, hr, ho, hc, ha⟩

section
variable {P : Program} {K : Kon} {o : Oper}

/-! ### places -/
noncomputable def opFld (off : Nat) (x : Opd) (st : St) : RS :=
  sel (Nat.beq (Nat.mod (rd st.T x) 16) 5) (sel (Nat.ble (Nat.add (po (rd st.T x)) off) (pz (rd st.T x))) (.ok (Nat.add (rd st.T x) (Nat.mul 4503599627370496 off)) st) .no) .no

theorem run_fieldAt {t : TypeId} {fs : Array Field} {j : Nat} {f : Field} {i : TypeInfo} (ht : P.underlying t = some (.struct fs)) (hf : fs[j]? = some f) (hi : P.info? f.type = some i) (hz : i.size ≠ 0) (b q : Nat) (w : World) :
    (Instr.fieldAt t (.pointer (some ⟨b, q, none⟩)) j).run P w = .ok (.pointer (some ⟨b, q + f.offset, none⟩)) w := by
  simp [Instr.fieldAt, run_underlying ht, hf, Instr.sureAddr, fieldPlace, run_siz hi, hz, add_none]

theorem opFld_ok {t : TypeId} {x : Operand} {j : Nat} {fs : Array Field} {f : Field} {i : TypeInfo} (ho : o.op = .fieldAddr t x j) (ht : P.underlying t = some (.struct fs)) (hf : fs[j]? = some f)
    (hi : P.info? f.type = some i) (hz : i.size ≠ 0) : OpV P K o (opFld f.offset (cOp K x)) := .pure fun g st a w z st' _ hh hy e => by
  unfold opFld at e
  obtain ⟨h1, e⟩ := sel_ok e
  obtain ⟨h2, e⟩ := sel_ok e
  injection e with e1 e2
  have h2 := ble_t h2
  simp only [nA, nM] at h2 e1
  obtain ⟨blk, base, room, a1, a2, a3, a4, a5, a6⟩ := (hy x (by simp [ho, Op.operands])).ptr (beq_t h1)
  refine ⟨e2.symm, .pointer (some ⟨blk, base + po (rd st.T (cOp K x)) + f.offset, none⟩), ?_, ?_⟩
  · simp only [execOp, ho, a2, Sem.run_bind, run_fieldAt ht hf hi hz, Result.andThen_ok]; rfl
  · have : z = ePtr (ps (rd st.T (cOp K x))) (pz (rd st.T (cOp K x))) (po (rd st.T (cOp K x)) + f.offset) := by
      rw [← e1]
      conv => lhs; rw [a1]
      unfold ePtr; omega
    rw [this, Nat.add_assoc]
    exact .cell _ _ (.ptr _ _ _ blk base room a3 a4 a5 h2)

/-- An index's number. -/
def ixN (w : Nat) : Nat := Nat.sub (Nat.div w 256) 9223372036854775808
noncomputable def isIx (w : Nat) : Bool := sel (Nat.beq (Nat.mod w 16) 2) (Nat.ble 9223372036854775808 (Nat.div w 256)) false
theorem TR.ixN {g : Gh} {R nR w : Nat} {v : Value} (h : TR g R nR w v) (hm : isIx w = true) : ∃ k, v = .int k (ixN w : Nat) := by
  unfold isIx at hm
  cases h1 : Nat.beq (Nat.mod w 16) 2 with
  | false => rw [h1] at hm; cases hm
  | true =>
    rw [h1, sel_true] at hm
    have h3 := ble_t hm
    rw [nD] at h3
    obtain ⟨k, hk⟩ := h.ix (beq_t h1) h3
    exact ⟨k, by rw [hk]; unfold Ev.ixN; rw [nS, nD]⟩

noncomputable def opIxA (size : Nat) (x y : Opd) (st : St) : RS :=
  sel (Nat.beq (Nat.mod (rd st.T x) 16) 7) (sel (isIx (rd st.T y)) (sel (Nat.blt (ixN (rd st.T y)) (sl (rd st.T x))) (sel (Nat.beq (se (rd st.T x)) size)
    (.ok (Nat.add (Nat.sub (Nat.mod (rd st.T x) 4503599627370496) 2) (Nat.mul 4503599627370496 (Nat.add (so (rd st.T x)) (Nat.mul (ixN (rd st.T y)) size)))) st) .no) .no) .no) .no

theorem run_ixA {t e : TypeId} {i : TypeInfo} (ht : P.underlying t = some (.slice e)) (hi : P.info? e = some i) (b q l c : Nat) (k : IntKind) (j : Nat) (hj : j < l) (w : World) :
    (Instr.indexAt t (.slice (some ⟨b, q, none⟩) l c) (.int k (j : Int))).run P w = .ok (.pointer (some ⟨b, q + j * i.size, none⟩)) w := by
  have h1 : (0 : Int) ≤ (j : Int) ∧ (j : Int) < (l : Int) := by omega
  simp [Instr.indexAt, asIntOf, run_underlying ht, run_siz hi, add_none, h1]
  intro hc; omega

theorem sli_ptr {s z l e q k : Nat} (hs : s < 16777216) (hz : z < 16777216) : eSli s z l e q % 4503599627370496 - 2 + 4503599627370496 * k = ePtr s z k := by
  unfold eSli ePtr; omega
theorem mul_le_of {j l e : Nat} (h : j < l) : j * e + e ≤ l * e := by
  have := Nat.mul_le_mul_right e (Nat.succ_le_of_lt h)
  rwa [Nat.succ_mul] at this

theorem opIxA_ok {t e : TypeId} {x y : Operand} {i : TypeInfo} (ho : o.op = .indexAddr t x y) (ht : P.underlying t = some (.slice e)) (hi : P.info? e = some i) : OpV P K o (opIxA i.size (cOp K x) (cOp K y)) := .pure fun g st a w z st' _ hh hy e => by
  unfold opIxA at e
  obtain ⟨h1, e⟩ := sel_ok e
  obtain ⟨h2, e⟩ := sel_ok e
  obtain ⟨h3, e⟩ := sel_ok e
  obtain ⟨h4, e⟩ := sel_ok e
  injection e with e1 e2
  have h3 := blt_t h3
  have h4 := beq_t h4
  simp only [nA, nM, Ev.nS, Ev.nR] at e1
  obtain ⟨blk, base, room, cap, ad, a1, a2, a3, a4, a5, a6, a7, a8, a9, a10⟩ := (hy x (by simp [ho, Op.operands])).sli (beq_t h1)
  obtain ⟨k, b2⟩ := (hy y (by simp [ho, Op.operands])).ixN h2
  obtain ⟨rfl, hroom⟩ := a10.resolve_left (by omega)
  rw [a1, sli_ptr a3 a4] at e1
  rw [so_eSli a3 a4 a5 a6] at e1
  have hm := mul_le_of (e := se (rd st.T (cOp K x))) h3
  refine ⟨e2.symm, .pointer (some ⟨blk, base + so (rd st.T (cOp K x)) + ixN (rd st.T (cOp K y)) * i.size, none⟩), ?_, ?_⟩
  · simp only [execOp, ho, a2, b2, Sem.run_bind, run_ixA ht hi _ _ _ _ k _ h3, Result.andThen_ok]; rfl
  · have hle : so (rd st.T (cOp K x)) + ixN (rd st.T (cOp K y)) * se (rd st.T (cOp K x)) ≤ pz (rd st.T (cOp K x)) := by omega
    rw [h4] at hle
    rw [Nat.add_assoc]
    exact e1 ▸ TR.cell _ _ (VR.ptr _ _ _ blk base room a3 a4 a7 hle)

noncomputable def opIxP (n size : Nat) (x y : Opd) (st : St) : RS :=
  sel (Nat.beq (Nat.mod (rd st.T x) 16) 5) (sel (isIx (rd st.T y)) (sel (Nat.blt (ixN (rd st.T y)) n) (sel (Nat.ble (Nat.add (po (rd st.T x)) (Nat.mul (ixN (rd st.T y)) size)) (pz (rd st.T x)))
    (.ok (Nat.add (rd st.T x) (Nat.mul 4503599627370496 (Nat.mul (ixN (rd st.T y)) size))) st) .no) .no) .no) .no

theorem run_ixP {t e : TypeId} {n : Nat} {i : TypeInfo} (ht : P.underlying t = some (.array n e)) (hi : P.info? e = some i) (b q : Nat) (k : IntKind) (j : Nat) (hj : j < n) (w : World) :
    (Instr.indexAt t (.pointer (some ⟨b, q, none⟩)) (.int k (j : Int))).run P w = .ok (.pointer (some ⟨b, q + j * i.size, none⟩)) w := by
  have h1 : (0 : Int) ≤ (j : Int) ∧ (j : Int) < (n : Int) := by omega
  simp [Instr.indexAt, asIntOf, run_underlying ht, Instr.sureAddr, run_siz hi, add_none, h1]
  intro hc; omega

theorem opIxP_ok {t e : TypeId} {x y : Operand} {n : Nat} {i : TypeInfo} (ho : o.op = .indexAddr t x y) (ht : P.underlying t = some (.array n e)) (hi : P.info? e = some i) : OpV P K o (opIxP n i.size (cOp K x) (cOp K y)) := .pure fun g st a w z st' _ hh hy e => by
  unfold opIxP at e
  obtain ⟨h1, e⟩ := sel_ok e
  obtain ⟨h2, e⟩ := sel_ok e
  obtain ⟨h3, e⟩ := sel_ok e
  obtain ⟨h4, e⟩ := sel_ok e
  injection e with e1 e2
  have h3 := blt_t h3
  have h4 := ble_t h4
  simp only [nA, nM] at e1 h4
  obtain ⟨blk, base, room, a1, a2, a3, a4, a5, a6⟩ := (hy x (by simp [ho, Op.operands])).ptr (beq_t h1)
  obtain ⟨k, b2⟩ := (hy y (by simp [ho, Op.operands])).ixN h2
  refine ⟨e2.symm, .pointer (some ⟨blk, base + po (rd st.T (cOp K x)) + ixN (rd st.T (cOp K y)) * i.size, none⟩), ?_, ?_⟩
  · simp only [execOp, ho, a2, b2, Sem.run_bind, run_ixP ht hi _ _ k _ h3, Result.andThen_ok]; rfl
  · have : z = ePtr (ps (rd st.T (cOp K x))) (pz (rd st.T (cOp K x))) (po (rd st.T (cOp K x)) + ixN (rd st.T (cOp K y)) * i.size) := by
      rw [← e1]
      conv => lhs; lhs; rw [a1]
      unfold ePtr; generalize ixN (rd st.T (cOp K y)) * i.size = q; omega
    rw [this, Nat.add_assoc]
    exact .cell _ _ (.ptr _ _ _ blk base room a3 a4 a5 h4)

/-! ### loads -/
noncomputable def opLd (x : Opd) (st : St) : RS :=
  sel (Nat.beq (Nat.mod (rd st.T x) 16) 5) (sel (Nat.blt (po (rd st.T x)) (pz (rd st.T x))) (.ok (gt st.M (Nat.add (ps (rd st.T x)) (po (rd st.T x)))) st) .no) .no

theorem opLd_ok {t : TypeId} {x : Operand} {d : TypeDesc} (ho : o.op = .load t x) (ht : P.underlying t = some d) (hd : aggB d = false) : OpV P K o (opLd (cOp K x)) := .pure fun g st a w z st' _ hh hy e => by
  unfold opLd at e
  obtain ⟨h1, e⟩ := sel_ok e
  obtain ⟨h2, e⟩ := sel_ok e
  injection e with e1 e2
  have h2 := blt_t h2
  rw [nA] at e1
  obtain ⟨blk, base, room, a1, a2, a3, a4, a5, a6⟩ := (hy x (by simp [ho, Op.operands])).ptr (beq_t h1)
  obtain ⟨v, hv, hr⟩ := hh.load a5 h2
  refine ⟨e2.symm, v, ?_, by rw [← e1]; exact .cell _ _ hr⟩
  simp [execOp, ho, a2, Instr.loadAt, Instr.sureAddr, loadVar, run_aggB ht, hd, hv]

noncomputable def opLdA (n : Nat) (x : Opd) (st : St) : RS :=
  sel (Nat.beq (Nat.mod (rd st.T x) 16) 5) (sel (Nat.ble (Nat.add (po (rd st.T x)) n) (pz (rd st.T x))) (sel (Nat.blt st.nR 4294967296)
    (fc (ad st.R st.nR (ch st.M (Nat.add (ps (rd st.T x)) (po (rd st.T x))) n)) fun R => .ok (Nat.add (Nat.add 12 (Nat.mul 16 n)) (Nat.mul 268435456 st.nR)) (setR R (Nat.add st.nR n) st)) .no) .no) .no

theorem opLdA_ok {t : TypeId} {x : Operand} {d : TypeDesc} {i : TypeInfo} (ho : o.op = .load t x) (ht : P.underlying t = some d) (hd : aggB d = true) (hi : P.info? t = some i) (hn : i.size < 16777216) : OpV P K o (opLdA i.size (cOp K x)) := fun g st a w z st' _ hh hy e => by
  unfold opLdA at e
  obtain ⟨h1, e⟩ := sel_ok e
  obtain ⟨h2, e⟩ := sel_ok e
  obtain ⟨h3, e⟩ := sel_ok e
  rw [fc_eq] at e
  injection e with e1 e2
  have h2 := ble_t h2
  have h3 := blt_t h3
  simp only [nA, nM] at e1 e2 h2
  obtain ⟨blk, base, room, a1, a2, a3, a4, a5, a6⟩ := (hy x (by simp [ho, Op.operands])).ptr (beq_t h1)
  generalize po (rd st.T (cOp K x)) = q at *
  generalize ps (rd st.T (cOp K x)) = s at *
  generalize pz (rd st.T (cOp K x)) = zz at *
  have hall : ∀ j, j < i.size → ∃ v, w.cell? ⟨blk, base + q + j, none⟩ = some v ∧ VR g (gt st.M (s + q + j)) v := fun j hj => by
    have := hh.load (o := q + j) a5 (by omega)
    rwa [← Nat.add_assoc, ← Nat.add_assoc] at this
  let f : Nat → Value := fun j => (w.cell? ⟨blk, base + q + j, none⟩).getD undef
  have hf : ∀ j, j < i.size → w.cell? (Addr.add ⟨blk, base + q, none⟩ j) = some (f j) := fun j hj => by
    obtain ⟨v, hv, _⟩ := hall j hj
    rw [add_none, hv]; simp [f, hv]
  have hrun := run_loadCells (P := P) w ⟨blk, base + q, none⟩ i.size f hf
  have hlt := ch_lt st.M (s + q) i.size
  have hext := Ext.ad i.size (ch st.M (s + q) i.size) hh.Rlt
  subst e2
  refine ⟨g, w, .agg ((List.range i.size).map f).toArray, .inl ?_, ⟨hh.frame _ _ (ad_lt hh.Rlt hlt), Fr.refl _ _, hext, ?_, rfl, rfl⟩, fun _ => .inl rfl⟩
  · simp [execOp, ho, a2, Instr.loadAt, Instr.sureAddr, loadVar, run_aggB ht, hd, run_siz hi, hrun]
  · rw [← e1, show 12 + 16 * i.size + 268435456 * st.nR = eAgg st.nR i.size from rfl]
    refine .agg _ _ _ hn h3 (Nat.le_refl _) (by simp) fun j hj => ?_
    rw [gt_ad _ _ hh.Rlt, if_neg (by omega), show st.nR + j - st.nR = j by omega, gt_ch, if_pos hj]
    obtain ⟨v, hv, hr⟩ := hall j hj
    have : (((List.range i.size).map f).toArray).getD j undef = v := by simp [hj, f, hv]
    rw [this]; exact hr

end
end Ev
end Go.Proofs.YtgdibfnpkcdiiaaGreatDoor
