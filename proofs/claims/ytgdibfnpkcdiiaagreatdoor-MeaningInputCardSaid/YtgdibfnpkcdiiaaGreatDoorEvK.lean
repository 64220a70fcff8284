/- Structs, arrays and slices built of parts. No condition. -/
import Derived.Test.YtgdibfnpkcdiiaaGreatDoorEvJ
namespace Go.Proofs.YtgdibfnpkcdiiaaGreatDoor
namespace Ev

/-- A part: where it goes, how many cells it has (0: one cell, no row), its operand. -/
structure Prt where
  off : Nat
  n : Nat
  x : Opd

noncomputable def bfill (T R : Nat) : List Prt → Nat → Option Nat := fun l => List.rec (fun c => some c) (fun p _ ih c =>
  sel (Nat.beq p.n 0) (sel (cellB (rd T p.x)) (fc (up c p.off 1 (rd T p.x)) ih) none)
    (sel (Nat.beq (Nat.mod (rd T p.x) 16) 12) (sel (Nat.beq (ln (rd T p.x)) p.n) (fc (up c p.off p.n (ch R (sa (rd T p.x)) p.n)) ih) none) none)) l

theorem bfill_nil (T R c : Nat) : bfill T R [] c = some c := rfl
theorem bfill_cons (T R : Nat) (p : Prt) (l : List Prt) (c : Nat) : bfill T R (p :: l) c = sel (Nat.beq p.n 0) (sel (cellB (rd T p.x)) (bfill T R l (up c p.off 1 (rd T p.x))) none)
    (sel (Nat.beq (Nat.mod (rd T p.x) 16) 12) (sel (Nat.beq (ln (rd T p.x)) p.n) (bfill T R l (up c p.off p.n (ch R (sa (rd T p.x)) p.n))) none) none) := by
  have : bfill T R (p :: l) c = sel (Nat.beq p.n 0) (sel (cellB (rd T p.x)) (fc (up c p.off 1 (rd T p.x)) (bfill T R l)) none)
    (sel (Nat.beq (Nat.mod (rd T p.x) 16) 12) (sel (Nat.beq (ln (rd T p.x)) p.n) (fc (up c p.off p.n (ch R (sa (rd T p.x)) p.n)) (bfill T R l)) none) none) := rfl
  rw [this, fc_eq, fc_eq]

theorem fold_set : ∀ (l : List Value) (k off : Nat) (cs : Array Value), off + k + l.length ≤ cs.size →
    ((l.zipIdx k).foldl (fun cs (c, j) => cs.setIfInBounds (off + j) c) cs).size = cs.size ∧
    ∀ i, ((l.zipIdx k).foldl (fun cs (c, j) => cs.setIfInBounds (off + j) c) cs).getD i undef = if off + k ≤ i ∧ i < off + k + l.length then l.getD (i - (off + k)) undef else cs.getD i undef
  | [], k, off, cs, h => ⟨rfl, fun i => by rw [if_neg (by rintro ⟨h1, h2⟩; simp at h2; omega)]; rfl⟩
  | v :: l, k, off, cs, h => by
    simp only [List.length_cons] at h
    obtain ⟨h1, h2⟩ := fold_set l (k + 1) off (cs.setIfInBounds (off + k) v) (by simp; omega)
    rw [List.zipIdx_cons, List.foldl_cons]
    refine ⟨by rw [h1]; simp, fun i => ?_⟩
    rw [h2]
    by_cases hi : i = off + k
    · subst hi
      rw [if_neg (by omega), if_pos (by simp), Nat.sub_self]
      simp [Array.getD_eq_getD_getElem?, show off + k < cs.size by omega]
    · by_cases hj : off + (k + 1) ≤ i ∧ i < off + (k + 1) + l.length
      · rw [if_pos hj, if_pos (by simp; omega), show i - (off + k) = (i - (off + (k + 1))) + 1 by omega]; rfl
      · rw [if_neg hj, if_neg (by simp; omega)]
        simp [Array.getD_eq_getD_getElem?, Ne.symm hi]

theorem fold_arr (v : Array Value) (off : Nat) (cs : Array Value) (h : off + v.size ≤ cs.size) :
    (v.zipIdx.foldl (fun cs (c, j) => cs.setIfInBounds (off + j) c) cs).size = cs.size ∧
    ∀ i, (v.zipIdx.foldl (fun cs (c, j) => cs.setIfInBounds (off + j) c) cs).getD i undef = if off ≤ i ∧ i < off + v.size then v.getD (i - off) undef else cs.getD i undef := by
  have := fold_set v.toList 0 off cs (by simpa using h)
  rw [← Array.foldl_toList, Array.toList_zipIdx]
  refine ⟨this.1, fun i => ?_⟩
  rw [this.2 i]
  simp only [Nat.add_zero, Array.length_toList, List.getD_eq_getElem?_getD, Array.getElem?_toList, Array.getD_eq_getD_getElem?]

/-- Where parts go. -/
noncomputable def cPrt (K : Kon) (place : Nat → Option (Nat × Nat × Bool)) (total : Nat) (x : Nat × Operand) : Option Prt :=
  match place x.1 with
  | some (off, sz, b) => if off + sz ≤ total then (if b = true then (if 0 < sz then some ⟨off, sz, cOp K x.2⟩ else none) else if sz = 1 then some ⟨off, 0, cOp K x.2⟩ else none) else none
  | none => none
noncomputable def cPrts (K : Kon) (place : Nat → Option (Nat × Nat × Bool)) (total : Nat) : List (Nat × Operand) → Option (List Prt)
  | [] => some []
  | x :: l => match cPrt K place total x, cPrts K place total l with
    | some p, some ps => some (p :: ps)
    | _, _ => none

theorem cPrt_some {K : Kon} {place : Nat → Option (Nat × Nat × Bool)} {total : Nat} {x : Nat × Operand} {p : Prt} (h : cPrt K place total x = some p) :
    ∃ sz b, place x.1 = some (p.off, sz, b) ∧ p.off + sz ≤ total ∧ ((b = true ∧ p.n = sz ∧ 0 < sz) ∨ (b = false ∧ sz = 1 ∧ p.n = 0)) ∧ p.x = cOp K x.2 := by
  unfold cPrt at h
  split at h
  · rename_i off sz b hp
    split at h
    · rename_i h1
      split at h
      · rename_i h2
        split at h
        · rename_i h3; injection h with h; subst h; exact ⟨sz, b, hp, h1, .inl ⟨h2, rfl, h3⟩, rfl⟩
        · cases h
      · rename_i h2
        split at h
        · rename_i h3; injection h with h; subst h; exact ⟨sz, b, hp, h1, .inr ⟨by simpa using h2, h3, rfl⟩, rfl⟩
        · cases h
    · cases h
  · cases h

theorem fill_ok {K : Kon} {g : Gh} {R nR T : Nat} {a : Act} {place : Nat → Option (Nat × Nat × Bool)} {total : Nat} : ∀ (l : List (Nat × Operand)) (ps : List Prt), cPrts K place total l = some ps →
    (∀ x ∈ l, TR g R nR (rd T (cOp K x.2)) (a.eval x.2)) → ∀ (cells : Array Value) (c c' : Nat), cells.size = total → c < 2 ^ (128 * total) → (∀ j, j < total → VR g (gt c j) (cells.getD j undef)) → bfill T R ps c = some c' →
    ∃ cells', Instr.fill (fun i => (place i).map fun q => (q.1, q.2.1)) cells (l.map fun x => (x.1, a.eval x.2)) = some cells' ∧ cells'.size = total ∧ c' < 2 ^ (128 * total) ∧ ∀ j, j < total → VR g (gt c' j) (cells'.getD j undef)
  | [], ps, hp, _, cells, c, c', hs, hc, hv, e => by
    rw [cPrts] at hp
    injection hp with hp
    subst hp
    rw [bfill_nil] at e; injection e with e; subst e
    exact ⟨cells, rfl, hs, hc, hv⟩
  | x :: l, pps, hpp, hy, cells, c, c', hs, hc, hv, e => by
    rw [cPrts] at hpp
    split at hpp
    rotate_left
    · cases hpp
    rename_i p ps hp hps
    injection hpp with hpp
    subst hpp
    obtain ⟨sz, b, h1, h2, h3, h4⟩ := cPrt_some hp
    rw [bfill_cons] at e
    have hx := hy x (by simp)
    rw [← h4] at hx
    have key : ∀ (vs : Array Value) (cw : Nat), (a.eval x.2).cells = vs → vs.size = sz → cw < 2 ^ (128 * sz) → (∀ j, j < sz → VR g (gt cw j) (vs.getD j undef)) → bfill T R ps (up c p.off sz cw) = some c' →
        ∃ cells', Instr.fill (fun i => (place i).map fun q => (q.1, q.2.1)) cells ((x :: l).map fun x => (x.1, a.eval x.2)) = some cells' ∧ cells'.size = total ∧ c' < 2 ^ (128 * total) ∧ ∀ j, j < total → VR g (gt c' j) (cells'.getD j undef) := by
      intro vs cw e1 e2 e3 e4 e5
      obtain ⟨f1, f2⟩ := fold_arr vs p.off cells (by omega)
      obtain ⟨cells', r1, r2⟩ := fill_ok l ps hps (fun y hy' => hy y (by simp [hy'])) _ _ c' (f1.trans hs) (up_lt hc (by omega) e3) (fun j hj => by
        rw [gt_up _ _ _ e3, f2 j]
        by_cases hq : p.off ≤ j ∧ j < p.off + sz
        · rw [if_pos hq, if_pos (by omega)]; exact e4 _ (by omega)
        · rw [if_neg hq, if_neg (by omega)]; exact hv j hj) e5
      refine ⟨cells', ?_, r2⟩
      rw [List.map_cons, Instr.fill]
      simp only [h1, Option.map_some]
      rw [if_neg (by simp [e1, e2]; omega), e1]
      exact r1
    cases hb : Nat.beq p.n 0 with
    | true =>
      rw [hb, sel_true] at e
      have hb := beq_t hb
      rcases h3 with ⟨_, h5, h6⟩ | ⟨_, h5, _⟩
      · omega
      · subst h5
        cases hc' : cellB (rd T p.x) with
        | false => rw [hc'] at e; cases e
        | true =>
          rw [hc', sel_true] at e
          have hv1 := hx.cellB hc'
          refine key #[a.eval x.2] _ (cells_one hv1.one) rfl hv1.lt (fun j hj => ?_) e
          have : j = 0 := by omega
          subst this
          rw [gt_word _ hv1.lt, if_pos rfl]; exact hv1
    | false =>
      rw [hb, sel_false] at e
      have hb := beq_f hb
      rcases h3 with ⟨_, h5, h6⟩ | ⟨_, _, h5⟩
      · cases h7 : Nat.beq (Nat.mod (rd T p.x) 16) 12 with
        | false => rw [h7] at e; cases e
        | true =>
          rw [h7, sel_true] at e
          cases h8 : Nat.beq (ln (rd T p.x)) p.n with
          | false => rw [h8] at e; cases e
          | true =>
            rw [h8, sel_true] at e
            have h8 := beq_t h8
            obtain ⟨vs, b1, b2, b3, b4, b5, b6, b7⟩ := hx.agg' (beq_t h7)
            rw [h5] at e h8
            exact key vs _ (by rw [b2]; rfl) (by omega) (ch_lt _ _ _) (fun j hj => by rw [gt_ch, if_pos hj]; exact b7 j (by omega)) e
      · omega

section
variable {P : Program} {K : Kon} {o : Oper}

noncomputable def opBd (n c0 : Nat) (ps : List Prt) (st : St) : RS :=
  sel (Nat.blt st.nR 4294967296) (Option.rec .no (fun c => fc (ad st.R st.nR c) fun R => .ok (Nat.add (Nat.add 12 (Nat.mul 16 n)) (Nat.mul 268435456 st.nR)) (setR R (Nat.add st.nR n) st)) (bfill st.T st.R ps c0)) .no

theorem bd_post {g : Gh} {st : St} {w : World} (hh : HR g st w) {n c x : Nat} {st' : St} {cells : Array Value} (hn : n < 16777216) (hr : st.nR < 4294967296) (hs : cells.size = n) (hc : c < 2 ^ (128 * n)) (hv : ∀ j, j < n → VR g (gt c j) (cells.getD j undef))
    (e : (fc (ad st.R st.nR c) fun R => RS.ok (Nat.add (Nat.add 12 (Nat.mul 16 n)) (Nat.mul 268435456 st.nR)) { st with R := R, nR := Nat.add st.nR n }) = .ok x st') : Post g st w g st' w x (.agg cells) := by
  rw [fc_eq] at e
  injection e with e1 e2
  simp only [nA, nM] at e1 e2
  subst e2
  refine ⟨hh.frame _ _ (ad_lt hh.Rlt hc), Fr.refl _ _, Ext.ad _ _ hh.Rlt, ?_, rfl, rfl⟩
  have : x = eAgg st.nR n := by rw [← e1]; rfl
  rw [this]
  refine .agg _ _ _ hn hr (Nat.le_refl _) hs fun j hj => ?_
  rw [gt_ad _ _ hh.Rlt, if_neg (by omega), show st.nR + j - st.nR = j by omega]
  exact hv j hj

def plS (P : Program) (fs : Array Field) (i : Nat) : Option (Nat × Nat × Bool) :=
  (fs[i]?).map fun f => (f.offset, ((P.info? f.type).map (·.size)).getD 0, aggB ((P.underlying f.type).getD .invalid))

theorem run_places {fs : Array Field} (h : ∀ f ∈ fs, (P.info? f.type).isSome = true) (w : World) :
    (fs.mapM fun (f : Field) => (do pure (f.offset, ← sizeOf f.type) : Sem (Nat × Nat))).run P w = .ok (fs.map fun f => (f.offset, ((P.info? f.type).map (·.size)).getD 0)) w := by
  rw [← Array.toArray_toList (xs := fs)] at h ⊢
  generalize fs.toList = l at h ⊢
  rw [List.mapM_toArray, List.map_toArray]
  have : ∀ l : List Field, (∀ f ∈ l, (P.info? f.type).isSome = true) → (l.mapM fun f => (do pure (f.offset, ← sizeOf f.type) : Sem (Nat × Nat))).run P w = .ok (l.map fun f => (f.offset, ((P.info? f.type).map (·.size)).getD 0)) w := by
    intro l
    induction l with
    | nil => intro _; rfl
    | cons f l ih =>
      intro h
      obtain ⟨i, hi⟩ := Option.isSome_iff_exists.1 (h f (by simp))
      have ih := ih (fun x hx => h x (by simp [hx]))
      rw [List.mapM_cons]
      simp only [Sem.run_bind, run_siz hi, Result.andThen_ok, Sem.run_pure, ih, List.map_cons, hi, Option.map_some, Option.getD_some]
  rw [Sem.run_map, this l (by simpa using h)]
  rfl

theorem opBdS_ok {t : TypeId} {parts : Array (Nat × Operand)} {fs : Array Field} {i : TypeInfo} {z : Value} {ps : List Prt} (ho : o.op = .build t parts) (ht : P.underlying t = some (.struct fs)) (hi : P.info? t = some i) (hz : i.zero = some z)
    (hb : cells0B K z.cells.toList = true) (hn : z.cells.size < 16777216) (hf : ∀ f ∈ fs, (P.info? f.type).isSome = true) (hp : cPrts K (plS P fs) z.cells.size parts.toList = some ps) :
    OpV P K o (opBd z.cells.size (cells0 K z.cells.toList) ps) := fun g st a w x st' hk hh hy e => by
  unfold opBd at e
  obtain ⟨h1, e⟩ := sel_ok e
  have h1 := blt_t h1
  obtain ⟨c1, c2⟩ := cells0_ok hk hb
  rw [Array.length_toList] at c1 c2
  cases hfl : bfill st.T st.R ps (cells0 K z.cells.toList) with
  | none => rw [hfl] at e; cases e
  | some c =>
    rw [hfl] at e
    obtain ⟨cells, r1, r2, r3, r4⟩ := fill_ok parts.toList ps hp (fun y hy' => hy y.2 (by simp only [ho, Op.operands, List.mem_toArray, List.mem_map]; exact ⟨y, hy', rfl⟩)) z.cells _ c rfl c1 (fun j hj => by
      have := c2 j hj
      rwa [List.getD_eq_getElem?_getD, Array.getElem?_toList, ← Array.getD_eq_getD_getElem?] at this) hfl
    refine ⟨g, w, .agg cells, .inl ?_, bd_post hh hn h1 r2 r3 r4 e, fun _ => .inl rfl⟩
    have hpl : (fun i => (plS P fs i).map fun q => (q.1, q.2.1)) = fun i => (fs.map fun f => (f.offset, ((P.info? f.type).map (·.size)).getD 0))[i]? := by
      funext i
      simp [plS, Function.comp_def]
    rw [hpl] at r1
    have r1' : (parts.map fun x => (x.1, a.eval x.2)).toList = parts.toList.map fun x => (x.1, a.eval x.2) := by simp
    rw [← r1'] at r1
    simp only [execOp, ho, Instr.build, Sem.run_bind, zeroValue, run_typ hi, hz, run_underlying ht, Result.andThen_ok, Sem.run_pure, run_places hf, r1]

theorem opBdA_ok {t e : TypeId} {parts : Array (Nat × Operand)} {n : Nat} {b : Bool} {i q : TypeInfo} {z : Value} {ps : List Prt} (ho : o.op = .build t parts) (ht : P.underlying t = some (.array n e)) (hi : P.info? t = some i) (hz : i.zero = some z)
    (hq : P.info? e = some q) (hb : cells0B K z.cells.toList = true) (hn : z.cells.size < 16777216) (hp : cPrts K (fun i => some (i * q.size, q.size, b)) z.cells.size parts.toList = some ps) :
    OpV P K o (opBd z.cells.size (cells0 K z.cells.toList) ps) := fun g st a w x st' hk hh hy e => by
  unfold opBd at e
  obtain ⟨h1, e⟩ := sel_ok e
  have h1 := blt_t h1
  obtain ⟨c1, c2⟩ := cells0_ok hk hb
  rw [Array.length_toList] at c1 c2
  cases hfl : bfill st.T st.R ps (cells0 K z.cells.toList) with
  | none => rw [hfl] at e; cases e
  | some c =>
    rw [hfl] at e
    obtain ⟨cells, r1, r2, r3, r4⟩ := fill_ok parts.toList ps hp (fun y hy' => hy y.2 (by simp only [ho, Op.operands, List.mem_toArray, List.mem_map]; exact ⟨y, hy', rfl⟩)) z.cells _ c rfl c1 (fun j hj => by
      have := c2 j hj
      rwa [List.getD_eq_getElem?_getD, Array.getElem?_toList, ← Array.getD_eq_getD_getElem?] at this) hfl
    refine ⟨g, w, .agg cells, .inl ?_, bd_post hh hn h1 r2 r3 r4 e, fun _ => .inl rfl⟩
    simp only [Option.map_some] at r1
    have r1' : (parts.map fun x => (x.1, a.eval x.2)).toList = parts.toList.map fun x => (x.1, a.eval x.2) := by simp
    rw [← r1'] at r1
    simp only [execOp, ho, Instr.build, Sem.run_bind, zeroValue, run_typ hi, hz, run_underlying ht, Result.andThen_ok, Sem.run_pure, run_siz hq, r1]

/-! ### slices built of parts -/
noncomputable def opBs (l e c0 : Nat) (ps : List Prt) (st : St) : RS :=
  sel (Nat.blt st.nM 16777216) (Option.rec .no (fun c => fc (ad st.M st.nM c) fun M =>
    .ok (Nat.add (Nat.add (Nat.add (Nat.add 7 (Nat.mul 16 st.nM)) (Nat.mul 268435456 (Nat.mul l e))) (Nat.mul 4503599627370496 l)) (Nat.mul 75557863725914323419136 e)) (setM M (Nat.add (Nat.add st.nM (Nat.mul l e)) 1) st)) (bfill st.T st.R ps c0)) .no

theorem sli_post {g : Gh} {st : St} {w : World} (hh : HR g st w) {l e cap cw x : Nat} {c : Array Value} {t : TypeId} {fr : Nat × Nat} {st' : St} (hm : st.nM < 16777216) (hz : l * e < 16777216) (hl : l < 16777216) (he : e < 256) (hcap : l ≤ cap) (hs : c.size = cap * e)
    (hcw : cw < 2 ^ (128 * (l * e))) (hv : ∀ j, j < l * e → VR g (gt cw j) (c.getD j undef)) (one : ∀ i, i < c.size → (c.getD i undef).oneCell' = true) (thaw : Thaw fr c.size)
    (e1 : 7 + 16 * st.nM + 268435456 * (l * e) + 4503599627370496 * l + 75557863725914323419136 * e = x) (e2 : { st with M := ad st.M st.nM cw, nM := st.nM + l * e + 1 } = st') :
    ∃ g', Post g st w g' st' (w.alloc (.cells c t fr)) x (.slice (some ⟨w.heap.size, 0, none⟩) l cap) := by
  have hle : l * e ≤ c.size := by rw [hs]; exact Nat.mul_le_mul_right e hcap
  obtain ⟨r1, r2⟩ := hh.alloc c t fr hle hcw hv one thaw
  subst e2
  refine ⟨_, r1, r2, Ext.refl _ _, ?_, rfl, rfl⟩
  have : x = eSli st.nM (l * e) l e 0 := by rw [← e1]; rfl
  rw [this]
  exact .cell _ _ (.sli st.nM (l * e) l e 0 w.heap.size 0 c.size cap _ hm hz hl he (by rw [Gh.put_rho, if_pos rfl]) (by omega) hcap (.inr ⟨rfl, by omega⟩))

theorem opBs_ok {t el : TypeId} {len : Nat} {parts : Array (Nat × Operand)} {b : Bool} {q : TypeInfo} {z : Value} {ps : List Prt} {zs : Array Value} (ho : o.op = .buildSlice t len parts) (ht : P.underlying t = some (.slice el)) (hq : P.info? el = some q)
    (hz : q.zero = some z) (hzs : zs = (Array.range (len * q.size)).map (fun i => z.cells[i % z.cells.size]!)) (hb : cells0B K zs.toList = true) (hn : len * q.size < 16777216) (h0 : len * q.size ≠ 0) (hl : len < 16777216) (he : q.size < 256)
    (hp : cPrts K (fun i => some (i * q.size, q.size, b)) (len * q.size) parts.toList = some ps) : OpV P K o (opBs len q.size (cells0 K zs.toList) ps) := fun g st a w x st' hk hh hy e => by
  have hsz : zs.size = len * q.size := by rw [hzs]; simp
  obtain ⟨c1, c2⟩ := cells0_ok hk hb
  rw [Array.length_toList, hsz] at c1 c2
  unfold opBs at e
  have big : ¬ len * q.size > 2 ^ 24 := by omega
  obtain ⟨h1, e⟩ := sel_ok e
  have h1 := blt_t h1
  cases hfl : bfill st.T st.R ps (cells0 K zs.toList) with
  | none => rw [hfl] at e; cases e
  | some c =>
    rw [hfl] at e
    simp only [fc_eq] at e
    injection e with e1 e2
    simp only [nA, nM] at e1 e2
    obtain ⟨cells, r1, r2, r3, r4⟩ := fill_ok parts.toList ps hp (fun y hy' => hy y.2 (by simp only [ho, Op.operands, List.mem_toArray, List.mem_map]; exact ⟨y, hy', rfl⟩)) zs _ c hsz c1 (fun j hj => by
      have := c2 j hj
      rwa [List.getD_eq_getElem?_getD, Array.getElem?_toList, ← Array.getD_eq_getD_getElem?] at this) hfl
    obtain ⟨g', hpost⟩ := sli_post (t := el) hh h1 hn hl he (Nat.le_refl len) r2 r3 r4 (fun i hi => (r4 i (by omega)).one) (fr := (0, 0)) (.inl rfl) e1 e2
    refine ⟨g', _, _, .inl ?_, hpost, fun q => absurd (beq_t (by simpa [ho, quietB] using q)) (fun e => h0 (by rw [e, Nat.zero_mul]))⟩
    simp only [Option.map_some] at r1
    have r1' : (parts.map fun x => (x.1, a.eval x.2)).toList = parts.toList.map fun x => (x.1, a.eval x.2) := by simp
    rw [← r1', hzs] at r1
    simp only [execOp, ho, Instr.buildSlice, Sem.run_bind, run_underlying ht, Result.andThen_ok, run_siz hq, if_neg big, if_neg h0, zeroValue, run_typ hq, hz, Sem.run_pure, r1, newRow, run_newObj_alloc]

noncomputable def opBs0 (st : St) : RS := .ok 57 st
theorem opBs0_ok {t el : TypeId} {parts : Array (Nat × Operand)} {q : TypeInfo} (ho : o.op = .buildSlice t 0 parts) (ht : P.underlying t = some (.slice el)) (hq : P.info? el = some q) (hp : parts = #[]) : OpV P K o opBs0 := fun g st a w x st' hk hh hy e => by
  unfold opBs0 at e
  injection e with e1 e2
  subst e1; subst e2; subst hp
  obtain ⟨r1, r2⟩ := hh.push (.cells #[] el (0, 0))
  refine ⟨g, _, .slice (some ⟨w.heap.size, 0, none⟩) 0 0, .inl ?_, ⟨r1, r2, Ext.refl _ _, .cell _ _ (.semp _), rfl, rfl⟩, fun _ => .inr ⟨rfl, rfl, Harm.push w _⟩⟩
  simp [execOp, ho, Instr.buildSlice, run_underlying ht, run_siz hq, Instr.fill, newRow, Array.range_zero']
end
end Ev
end Go.Proofs.YtgdibfnpkcdiiaaGreatDoor
