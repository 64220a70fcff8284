/- Functions of the library that the evaluator reckons by itself: strings.Join, the search for a byte, the count of a byte. No condition. -/
import Derived.Test.YtgdibfnpkcdiiaaGreatDoorEwJ
import Derived.Test.YtgdibfnpkcdiiaaGreatDoorEvQa
import Derived.Lib.Bytealg
import Derived.Lib.Join
import Derived.Below
namespace Go.Proofs.YtgdibfnpkcdiiaaGreatDoor
open Go.RowKit
namespace Ev

theorem two_ok {st st' : St} {n x : Nat} {r : RS} (h : st.D = [(n, [])]) (e : two st r = .ok x st') : n = 2 ∧ r = .ok x st' := by
  unfold two at e
  rw [h] at e
  obtain ⟨h1, h2⟩ := sel_ok e
  exact ⟨beq_t h1, h2⟩

section
variable {P : Program} {K : Kon} {g : Gh} {st : St} {w w' : World}

theorem HR.below (h : HR g st w) (hb : Below w.heap.size w w') : HR g st w' ∧ Fr g w g w' := by
  refine ⟨⟨h.S, h.nS, h.Slt, h.Mlt, h.Rlt, h.top, h.disj, fun s blk base z room hs => ?_, h.rows, fun s blk hs => ?_, h.inj, h.minj⟩, ⟨hb.os, hb.tape, hb.output, hb.size, Gh.le.refl _, fun b hlt _ => hb.block b hlt, fun _ _ h => h⟩⟩
  · obtain ⟨c, e, fr, hc⟩ := h.cells s blk base z room hs
    exact ⟨c, e, fr, (hb.block blk (Array.getElem?_eq_some_iff.1 hc.heap).1).trans hc.heap, hc.size, hc.room, hc.one, hc.vr, hc.thaw⟩
  · obtain ⟨o, ho, hm⟩ := h.maps s blk hs
    exact ⟨o, (hb.block blk (Array.getElem?_eq_some_iff.1 ho).1).trans ho, hm⟩

/-! ### bytes -/
theorem ixb_ok (S a n b : Nat) (hb : b < 256) : ∀ k, k ≤ n →
    (ixb S a n b k = 0 ∧ Lib.indexByte (((List.range n).map fun i => UInt8.ofNat (byteAt S (a + i))).drop (n - k)) (UInt8.ofNat b) = -1) ∨
    ∃ j : Nat, Lib.indexByte (((List.range n).map fun i => UInt8.ofNat (byteAt S (a + i))).drop (n - k)) (UInt8.ofNat b) = j ∧ ixb S a n b k = n - k + j + 1 ∧ j < k
  | 0, _ => .inl ⟨rfl, by rw [List.drop_eq_nil_of_le (by simp)]; rfl⟩
  | k + 1, hk => by
    have e : ixb S a n b (k + 1) = sel (Nat.beq (byteAt S (a + (n - k - 1))) b) (n - k) (ixb S a n b k) := rfl
    have hd : ((List.range n).map fun i => UInt8.ofNat (byteAt S (a + i))).drop (n - (k + 1)) = UInt8.ofNat (byteAt S (a + (n - k - 1))) :: ((List.range n).map fun i => UInt8.ofNat (byteAt S (a + i))).drop (n - k) := by
      rw [List.drop_eq_getElem_cons (by simp; omega)]
      congr 1
      · simp [show n - (k + 1) = n - k - 1 by omega]
      · rw [show n - (k + 1) + 1 = n - k by omega]
    rw [e, hd, Lib.indexByte]
    cases hq : Nat.beq (byteAt S (a + (n - k - 1))) b with
    | true =>
      rw [sel_true]
      have hq := beq_t hq
      rw [hq]
      exact .inr ⟨0, by simp, by omega, by omega⟩
    | false =>
      rw [sel_false]
      have hq := beq_f hq
      have hne : (UInt8.ofNat (byteAt S (a + (n - k - 1))) == UInt8.ofNat b) = false := by
        rw [beq_eq_false_iff_ne]
        exact fun h => hq (byte_inj (byteAt_lt _ _) hb h)
      rw [hne]
      rcases ixb_ok S a n b hb k (by omega) with ⟨h1, h2⟩ | ⟨j, h1, h2, h3⟩
      · exact .inl ⟨h1, by rw [h2]; rfl⟩
      · refine .inr ⟨j + 1, ?_, by omega, by omega⟩
        rw [h1]
        have : ((j : Int) == -1) = false := by rw [beq_eq_false_iff_ne]; omega
        rw [this]; simp

theorem cnb_ok (S a b : Nat) (hb : b < 256) : ∀ k, Lib.countByte ((List.range k).map fun i => UInt8.ofNat (byteAt S (a + i))) (UInt8.ofNat b) = cnb S a b k ∧ cnb S a b k ≤ k
  | 0 => ⟨rfl, Nat.le_refl _⟩
  | k + 1 => by
    have e : cnb S a b (k + 1) = sel (Nat.beq (byteAt S (a + k)) b) (cnb S a b k + 1) (cnb S a b k) := rfl
    obtain ⟨i1, i2⟩ := cnb_ok S a b hb k
    unfold Lib.countByte at i1 ⊢
    rw [List.range_succ, List.map_append, List.count_append, i1, e]
    cases hq : Nat.beq (byteAt S (a + k)) b with
    | true =>
      have hq := beq_t hq
      rw [sel_true]
      exact ⟨by simp [hq], by omega⟩
    | false =>
      have hq := beq_f hq
      have hne : ¬ UInt8.ofNat (byteAt S (a + k)) = UInt8.ofNat b := fun h => hq (byte_inj (byteAt_lt _ _) hb h)
      rw [sel_false]
      refine ⟨?_, by omega⟩
      have : List.count (UInt8.ofNat b) (List.map (fun i => UInt8.ofNat (byteAt S (a + i))) [k]) = 0 := by
        rw [List.map_cons, List.map_nil, List.count_cons, List.count_nil]
        simp [hne]
      rw [this, Nat.add_zero]

/-- A byte as a word. -/
theorem byte_word {x : Nat} {v : Value} (h : TR g st.R st.nR x v) (h1 : x % 256 = 66) (h2 : ixN x < 256) : ∃ m : Int, v = .int .u8 m ∧ m.toNat.toUInt8 = UInt8.ofNat (ixN x) := by
  have hx : x ≠ 0 := by intro e; subst e; simp at h1
  obtain ⟨k, m, e1, e2, e3, e4⟩ := (h.cell_inv (by omega) (by omega) (by omega) hx).int_inv (by omega)
  have hk := kc_lt k
  have hkk : kc k = 4 := by
    have : (eInt k m) % 256 = 2 + 16 * kc k := by unfold eInt; omega
    rw [← e1, h1] at this; omega
  have hk8 : k = .u8 := kc_inj (hkk.trans rfl)
  subst hk8
  refine ⟨m, e2, ?_⟩
  have hm : ixN x = m.toNat := by
    show x / 256 - 9223372036854775808 = m.toNat
    rw [e1]
    unfold eInt
    have : (2 + 16 * kc .u8 + 256 * (m + 9223372036854775808).toNat) / 256 = (m + 9223372036854775808).toNat := by omega
    rw [this]; omega
  rw [hm]

theorem eInt_nat64 (b : Nat) : eInt .i64 (b : Int) = 2361183241434822606898 + 256 * b := by show 2 + 16 * 3 + 256 * ((b : Int) + 9223372036854775808).toNat = _; omega
theorem eInt_m1 : eInt .i64 (-1) = 2361183241434822606642 := by show 2 + 16 * 3 + 256 * ((-1 : Int) + 9223372036854775808).toNat = _; omega
theorem pred_256 (c b : Nat) : c + 256 * (b + 1) - 256 = c + 256 * b := by omega
theorem sub_256 {c d : Nat} (h : c = d + 256) : c + 256 * 0 - 256 = d := by omega

theorem two_args {args : Array Value} {u v : Value} (ha : args.size = 2) (h0 : args.getD 0 undef = u) (h1 : args.getD 1 undef = v) : args = #[u, v] := by
  subst h0; subst h1
  apply Array.ext
  · simpa using ha
  · intro i hi hi2
    have : i = 0 ∨ i = 1 := by simp at hi2; omega
    rcases this with rfl | rfl <;> simp [Array.getD_eq_getD_getElem?, hi]

theorem ix_vr {g : Gh} {x n : Nat} {i : Int} {k : Nat} (hn : n < 16777216) (e : 2361183241434822606898 + 256 * k - 256 = x) (h : (k = 0 ∧ i = -1) ∨ ∃ j : Nat, i = j ∧ k = j + 1 ∧ j < n) : VR g x (.int .i64 i) := by
  rcases h with ⟨rfl, rfl⟩ | ⟨j, rfl, rfl, hj⟩
  · rw [sub_256 (d := 2361183241434822606642) (by decide), ← eInt_m1] at e
    rw [← e]
    exact .int .i64 (-1) (by decide) (by decide)
  · rw [pred_256, ← eInt_nat64] at e
    rw [← e]
    exact .int .i64 j (by omega) (by omega)

theorem hIxB_ok {f : Nat} (hc : ∀ (s : ByteArray) (c : Int) (w : World), (callFunc f #[.string s, .int .u8 c]).run P w = .ok (.value (.int .i64 (Lib.indexByte s.data.toList c.toNat.toUInt8))) w) : HookV P K f hIxB := fun g st w args x st' hk hh hD hs _ e => by
  obtain ⟨ha, e⟩ := two_ok hD e
  obtain ⟨h1, e⟩ := sel_ok e
  obtain ⟨h2, e⟩ := sel_ok e
  obtain ⟨h3, e⟩ := sel_ok e
  have h3 := blt_t h3
  obtain ⟨a1, a2, a3, a4, a5⟩ := (hs 0).str (beq_t h1)
  obtain ⟨m, b1, b2⟩ := byte_word (hs 1) (beq_t h2) h3
  have hq := ixb_ok g.S (sa (gt st.T 0)) (ln (gt st.T 0)) (ixN (gt st.T 1)) h3 (ln (gt st.T 0)) (Nat.le_refl _)
  rw [Nat.sub_self, List.drop_zero] at hq
  rw [hh.S] at e
  rw [two_args ha a2 b1]
  have hv := hc (strOf g.S (sa (gt st.T 0)) (ln (gt st.T 0))) m w
  rw [b2, strOf_data] at hv
  generalize ixb g.S (sa (gt st.T 0)) (ln (gt st.T 0)) (ixN (gt st.T 1)) (ln (gt st.T 0)) = k at hq e
  generalize Lib.indexByte _ _ = i at hq hv
  simp only [nA, nM, nS] at e
  injection e with e1 e2
  subst e2
  refine .inr ⟨_, w, hv, g, hh, Fr.refl _ _, Ext.refl _ _, .cell _ _ (ix_vr a3 e1 ?_)⟩
  rcases hq with ⟨q1, q2⟩ | ⟨j, q1, q2, q3⟩
  · exact .inl ⟨q1, q2⟩
  · exact .inr ⟨j, q1, by omega, q3⟩

theorem hCnt_ok {f : Nat} (hc : ∀ (s : ByteArray) (c : Int) (w : World), (callFunc f #[.string s, .int .u8 c]).run P w = .ok (.value (.int .i64 (Lib.countByte s.data.toList c.toNat.toUInt8))) w) : HookV P K f hCnt := fun g st w args x st' hk hh hD hs _ e => by
  obtain ⟨ha, e⟩ := two_ok hD e
  obtain ⟨h1, e⟩ := sel_ok e
  obtain ⟨h2, e⟩ := sel_ok e
  obtain ⟨h3, e⟩ := sel_ok e
  have h3 := blt_t h3
  obtain ⟨a1, a2, a3, a4, a5⟩ := (hs 0).str (beq_t h1)
  obtain ⟨m, b1, b2⟩ := byte_word (hs 1) (beq_t h2) h3
  obtain ⟨q1, q2⟩ := cnb_ok g.S (sa (gt st.T 0)) (ixN (gt st.T 1)) h3 (ln (gt st.T 0))
  rw [hh.S] at e
  rw [two_args ha a2 b1]
  have hv := hc (strOf g.S (sa (gt st.T 0)) (ln (gt st.T 0))) m w
  rw [b2, strOf_data, q1] at hv
  generalize cnb g.S (sa (gt st.T 0)) (ixN (gt st.T 1)) (ln (gt st.T 0)) = k at q2 e hv
  simp only [nA, nM] at e
  injection e with e1 e2
  subst e2
  rw [← eInt_nat64] at e1
  refine .inr ⟨_, w, hv, g, hh, Fr.refl _ _, Ext.refl _ _, .cell _ _ ?_⟩
  rw [← e1]
  exact .int .i64 k (by omega) (by omega)

/-! ### strings.Join -/
theorem data_ad {A m c l : Nat} (hA : A < 2 ^ (8 * m)) : (strOf (adS A m c) 0 (m + l)).data.toList = (strOf A 0 m).data.toList ++ (strOf c 0 l).data.toList := by
  rw [strOf_data, strOf_data, strOf_data, List.range_add, List.map_append, List.map_map]
  congr 1
  · refine List.map_congr_left fun i hi => ?_
    rw [byteAt_adS _ _ hA, if_pos (by have := List.mem_range.1 hi; omega)]
  · refine List.map_congr_left fun i hi => ?_
    show UInt8.ofNat (byteAt (adS A m c) (0 + (m + i))) = _
    rw [byteAt_adS _ _ hA, if_neg (by omega), show 0 + (m + i) - m = 0 + i by omega]
theorem data_ch (S a l : Nat) : (strOf (chS S a l) 0 l).data.toList = (strOf S a l).data.toList := by
  rw [strOf_data, strOf_data]
  refine List.map_congr_left fun i hi => ?_
  rw [byteAt_chS, Nat.zero_add, if_pos (List.mem_range.1 hi)]
theorem join_more (x y : List UInt8) (r : List (List UInt8)) (sep : List UInt8) : Lib.join (x :: y :: r) sep = x ++ (sep ++ Lib.join (y :: r) sep) := by
  rw [Lib.join_cons, Lib.join_cons]
  simp [Lib.joinTail]

theorem sel_some {α : Type} {b : Bool} {x : Option α} {y : α} (h : sel b x none = some y) : b = true ∧ x = some y := by
  cases b with
  | true => exact ⟨rfl, h⟩
  | false => cases h

/-- The strings of a row of words. -/
def strsW (S M a n : Nat) : List ByteArray := (List.range n).map fun j => strOf S (sa (gt M (a + j))) (ln (gt M (a + j)))
theorem jn_ok (S M a sep n : Nat) : ∀ k, k ≤ n → ∀ l c, jn S M a sep n k = some ⟨l, c⟩ →
    c < 2 ^ (8 * l) ∧ (∀ j, n - k ≤ j → j < n → gt M (a + j) % 16 = 3) ∧ (strOf c 0 l).data.toList = Lib.join (((strsW S M a n).drop (n - k)).map fun x => x.data.toList) (strOf S (sa sep) (ln sep)).data.toList
  | 0, _, l, c, e => by
    have e : some (⟨0, 0⟩ : Src) = some ⟨l, c⟩ := e
    injection e with e
    injection e with e1 e2
    subst e1; subst e2
    exact ⟨by simp, fun j h1 h2 => by omega, by rw [List.drop_eq_nil_of_le (by simp [strsW])]; rfl⟩
  | k + 1, hk, l, c, e => by
    have e' : (Option.rec none (fun q => Src.rec (fun l c => sel (Nat.beq (Nat.mod (gt M (a + (n - k - 1))) 16) 3)
      (sel (Nat.beq k 0) (some ⟨ln (gt M (a + (n - k - 1))), chS S (sa (gt M (a + (n - k - 1)))) (ln (gt M (a + (n - k - 1))))⟩)
        (some ⟨ln (gt M (a + (n - k - 1))) + (ln sep + l), adS (chS S (sa (gt M (a + (n - k - 1)))) (ln (gt M (a + (n - k - 1))))) (ln (gt M (a + (n - k - 1)))) (adS (chS S (sa sep) (ln sep)) (ln sep) c)⟩)) none) q) (jn S M a sep n k) : Option Src) = some ⟨l, c⟩ := e
    have hd : (strsW S M a n).drop (n - (k + 1)) = strOf S (sa (gt M (a + (n - k - 1)))) (ln (gt M (a + (n - k - 1)))) :: (strsW S M a n).drop (n - k) := by
      rw [List.drop_eq_getElem_cons (by simp [strsW]; omega)]
      congr 1
      · simp [strsW, show n - (k + 1) = n - k - 1 by omega]
      · rw [show n - (k + 1) + 1 = n - k by omega]
    rw [hd]
    clear e hd
    generalize hwd : gt M (a + (n - k - 1)) = wd at e' ⊢
    cases hj : jn S M a sep n k with
    | none => rw [hj] at e'; cases e'
    | some q =>
      obtain ⟨l0, c0⟩ := q
      rw [hj] at e'
      obtain ⟨h1, e'⟩ := sel_some e'
      obtain ⟨i1, i2, i3⟩ := jn_ok S M a sep n k (by omega) l0 c0 hj
      have tags : ∀ j, n - (k + 1) ≤ j → j < n → gt M (a + j) % 16 = 3 := fun j j1 j2 => by
        by_cases hjj : j = n - k - 1
        · rw [hjj, hwd]; exact beq_t h1
        · exact i2 j (by omega) j2
      cases h2 : Nat.beq k 0 with
      | true =>
        rw [h2, sel_true] at e'
        have h2 := beq_t h2
        injection e' with e'
        injection e' with e1 e2
        subst e1; subst e2
        refine ⟨chS_lt _ _ _, tags, ?_⟩
        rw [data_ch, List.drop_eq_nil_of_le (by simp [strsW]; omega), List.map_cons, List.map_nil, Lib.join_one]
      | false =>
        rw [h2, sel_false] at e'
        have h2 := beq_f h2
        injection e' with e'
        injection e' with e1 e2
        subst e1; subst e2
        have hb := adS_lt (chS_lt S (sa sep) (ln sep)) i1
        refine ⟨adS_lt (chS_lt _ _ _) hb, tags, ?_⟩
        rw [data_ad (chS_lt _ _ _), data_ad (chS_lt _ _ _), data_ch, data_ch, i3]
        obtain ⟨y, r, hyr⟩ : ∃ y r, (strsW S M a n).drop (n - k) = y :: r := by
          cases hq : (strsW S M a n).drop (n - k) with
          | nil =>
            have := congrArg List.length hq
            simp [strsW] at this
            omega
          | cons y r => exact ⟨y, r, rfl⟩
        rw [hyr, List.map_cons, List.map_cons, List.map_cons, join_more]

theorem hJoin_ok {f : Nat} (hcall : ∀ args w, (callFunc f args).run P w = .ok (.enter f args) w)
    (hnone : ∀ (a : Option Addr) (c : Nat) (sep : ByteArray) (w : World), Calls P f #[.slice a 0 c, .string sep] w fun e w' => e = .returned (.string ⟨#[]⟩) ∧ w' = w)
    (hsome : ∀ (bk o c : Nat) (xs : List ByteArray) (sep : ByteArray) (w : World) (_ : ∀ (j : Nat) x, xs[j]? = some x → w.cell? ⟨bk, o + j, none⟩ = some (.string x)) (_ : bk < w.heap.size) (_ : xs.length ≤ 140737488355328) (_ : xs.length ≤ c)
      (_ : (Lib.join (xs.map (·.data.toList)) sep.data.toList).length ≤ 140737488355328),
      Calls P f #[.slice (some ⟨bk, o, none⟩) xs.length c, .string sep] w fun e w' => e = .returned (.string ⟨(Lib.join (xs.map (·.data.toList)) sep.data.toList).toArray⟩) ∧ Below w.heap.size w w') : HookV P K f hJoin := fun g st w args x st' hk hh hD hs _ e => by
  obtain ⟨ha, e⟩ := two_ok hD e
  obtain ⟨h1, e⟩ := sel_ok e
  obtain ⟨h2, e⟩ := sel_ok e
  obtain ⟨h3, e⟩ := sel_ok e
  obtain ⟨h4, e⟩ := sel_ok e
  have h4 := blt_t h4
  cases hj : jn st.S st.M (Nat.add (ps (gt st.T 0)) (so (gt st.T 0))) (gt st.T 1) (sl (gt st.T 0)) (sl (gt st.T 0)) with
  | none => rw [hj] at e; cases e
  | some q =>
    obtain ⟨l, c⟩ := q
    rw [hj] at e
    obtain ⟨h5, e⟩ := sel_ok e
    have h5 := blt_t h5
    rw [fc_eq] at e
    injection e with e1 e2
    rw [nA] at hj e2
    obtain ⟨j1, j2, j3⟩ := jn_ok _ _ _ _ _ _ (Nat.le_refl _) l c hj
    rw [Nat.sub_self, List.drop_zero] at j3
    obtain ⟨b1, b2, b3, b4, b5⟩ := (hs 1).str (beq_t h1)
    obtain ⟨blk, base, room, cap, ad, c1, c2, c3, c4, c5, c6, c7, c8, c9, c10⟩ := (hs 0).sli (beq_t h2)
    have h3 := beq_t h3
    rw [h3, Nat.mul_one] at c8
    have hsd : strOf st.S (sa (gt st.T 1)) (ln (gt st.T 1)) = strOf g.S (sa (gt st.T 1)) (ln (gt st.T 1)) := by rw [hh.S]
    have hargs := two_args ha c2 b2
    have fin : ∀ (v : ByteArray) (w' : World), v.data.toList = (strOf c 0 l).data.toList → Below w.heap.size w w' → ∃ g', CPost g st w g' st' w' x (.string v) := fun v w' hv hb => by
      obtain ⟨q1, q2⟩ := hh.below hb
      obtain ⟨p1, p2⟩ := q1.pool l c j1
      refine ⟨_, by rw [← e2]; exact p1, q2.trans p2, by rw [← e2]; exact Ext.refl _ _, ?_⟩
      rw [← e1]
      have hvs : v = strOf (adS st.S st.nS c) st.nS l := by
        apply ByteArray.ext
        apply Array.ext'
        rw [hv, strOf_data, strOf_data]
        refine List.map_congr_left fun i hi => ?_
        rw [byteAt_adS _ _ hh.Slt, if_neg (by omega), show st.nS + i - st.nS = 0 + i by omega]
      rw [hvs]
      exact .cell _ _ (.str st.nS l h5 (Nat.le_refl _) h4)
    rw [hargs]
    refine .inl ⟨hcall _ _, ?_⟩
    by_cases h0 : sl (gt st.T 0) = 0
    · rw [h0]
      refine (hnone _ _ _ _).mono fun e w' ⟨k1, k2⟩ => ⟨_, k1, fin _ _ ?_ (by rw [k2]; exact Below.refl _ _)⟩
      rw [j3, h0]; rfl
    · have hcap : cap ≠ 0 := by omega
      rcases c10 with c10 | ⟨c10, c11⟩
      · exact absurd c10 hcap
      · have hlen : (strsW st.S st.M (ps (gt st.T 0) + so (gt st.T 0)) (sl (gt st.T 0))).length = sl (gt st.T 0) := by simp [strsW]
        have hcell : ∀ (j : Nat) x, (strsW st.S st.M (ps (gt st.T 0) + so (gt st.T 0)) (sl (gt st.T 0)))[j]? = some x → w.cell? ⟨blk, base + so (gt st.T 0) + j, none⟩ = some (.string x) := fun j x hx => by
          have hjl : j < sl (gt st.T 0) := by rw [← hlen]; exact (List.getElem?_eq_some_iff.1 hx).1
          obtain ⟨v, v1, v2⟩ := hh.load c7 (o := so (gt st.T 0) + j) (by omega)
          rw [← Nat.add_assoc] at v1 v2
          have ht := j2 j (by omega) hjl
          obtain ⟨u1, u2, _⟩ := (TR.cell (R := 0) (nR := 0) _ _ v2).str ht
          rw [v1, u2]
          have : x = strOf st.S (sa (gt st.M (ps (gt st.T 0) + so (gt st.T 0) + j))) (ln (gt st.M (ps (gt st.T 0) + so (gt st.T 0) + j))) := by
            simp only [strsW, List.getElem?_map, List.getElem?_range hjl, Option.map_some, Option.some.injEq] at hx
            exact hx.symm
          rw [this, hh.S]
        have hl2 := (List.length_map (as := (strOf c 0 l).data.toList) id)
        have hsz : (Lib.join ((strsW st.S st.M (ps (gt st.T 0) + so (gt st.T 0)) (sl (gt st.T 0))).map (·.data.toList)) (strOf g.S (sa (gt st.T 1)) (ln (gt st.T 1))).data.toList).length = l := by
          rw [← hsd, ← j3, strOf_data]; simp
        have := hsome blk (base + so (gt st.T 0)) cap (strsW st.S st.M (ps (gt st.T 0) + so (gt st.T 0)) (sl (gt st.T 0))) (strOf g.S (sa (gt st.T 1)) (ln (gt st.T 1))) w hcell (own_lt hh (.inl ⟨_, _, _, _, c7⟩)) (by omega) (by omega) (by rw [hsz]; omega)
        rw [hlen] at this
        rw [c10]
        refine this.mono fun e w' ⟨k1, k2⟩ => ⟨_, k1, fin _ _ ?_ k2⟩
        rw [j3, hsd]
end
end Ev
end Go.Proofs.YtgdibfnpkcdiiaaGreatDoor
