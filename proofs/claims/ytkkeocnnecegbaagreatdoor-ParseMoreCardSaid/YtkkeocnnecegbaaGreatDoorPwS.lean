/- A tree's nodes in memory; the walk over flat. By an AI agent. -/
import Derived.Test.YtkkeocnnecegbaaGreatDoorPwR
import Derived.Deep.RegionLaw
namespace Go.Proofs.YtkkeocnnecegbaaGreatDoor
open Go.RowKit

theorem info43 : (Tryz.prog.info? 43).map (fun i => (i.zero, i.size, i.bytes)) = some (some (.agg #[.int .u8 0, .string ⟨#[]⟩, .int .i64 0, .int .i64 0, .slice none 0 0]), 5, 64) := by kernel_rfl
theorem info3 : (Tryz.prog.info? 3).map (fun i => (i.zero, i.size, i.bytes)) = some (some (.int .i64 0), 1, 8) := by kernel_rfl

/-- A node, and its kids' slice. -/
abbrev NV := NodeS × Value
def nodeC (m : NV) : List Value := [.int .u8 m.1.kind, .string ⟨m.1.text.toArray⟩, .int .i64 m.1.n, .int .i64 m.1.at', m.2]
def nodesC (l : List NV) : List Value := l.flatMap nodeC
theorem nodesC_length (l : List NV) : (nodesC l).length = l.length * 5 := by
  induction l with
  | nil => rfl
  | cons m r ih => simp only [nodesC, List.flatMap_cons, List.length_append, List.length_cons] at ih ⊢; rw [ih]; simp [nodeC]; omega
theorem nodesC_append (a b : List NV) : nodesC (a ++ b) = nodesC a ++ nodesC b := by simp [nodesC]
theorem nodesC_one (m : NV) : nodesC [m] = nodeC m := by simp [nodesC]
def intV (l : List Nat) : List Value := l.map (fun k : Nat => .int .i64 (k : Int))
/-- A tree that is being laid: its nodes' slice v, of so many nodes; the kids' slices are rows of their own, from B on. -/
structure TreeW (w : World) (TT B : Nat) (v : Value) (l : List NV) : Prop where
  lt : TT < B
  top : B ≤ w.heap.size
  blk : Blk w TT 24 #[v]
  row : w.ownsRow B 43 5 v l.length (nodesC l)
  kids : ∀ m ∈ l, w.ownsRow B 3 1 m.2 m.1.kids.length (intV m.1.kids)
theorem own_type {w : World} {B e size n g : Nat} {v : Value} {xs : List Value} (h : w.ownsRow B e size v n xs) (hg : v.ownBlock = some g) : ∃ cur, w.heap[g]? = some (.cells cur e (0, 0)) := by
  rcases h.2 with ⟨rfl, _⟩ | ⟨g', cap, cur, rfl, hb, hgg, _⟩
  · simp [Value.ownBlock] at hg
  · have : g' = g := Option.some.inj (show some g' = some g from hg)
    subst this; exact ⟨cur, hgg⟩
theorem own_apart {w : World} {B B' e e' size size' n n' g : Nat} {v v' : Value} {xs xs' : List Value} (h : w.ownsRow B e size v n xs) (h' : w.ownsRow B' e' size' v' n' xs') (he : e ≠ e') (hg : v.ownBlock = some g) : v'.ownBlock ≠ some g := by
  intro hg'
  obtain ⟨c, h1⟩ := own_type h hg
  obtain ⟨c', h2⟩ := own_type h' hg'
  rw [h1] at h2
  injection h2 with h2
  injection h2 with _ h2 _
  exact he h2

theorem own_set {w : World} {B e size n cap g : Nat} {xs : List Value} (h : w.ownsRow B e size (.slice (some ⟨g, 0, none⟩) n cap) n xs) (j : Nat) (u : Value) : (w.setCell ⟨g, j, none⟩ u).ownsRow B e size (.slice (some ⟨g, 0, none⟩) n cap) n (xs.set j u) := by
  refine ⟨by rw [List.length_set]; exact h.1, ?_⟩
  rcases h.2 with ⟨h', _⟩ | ⟨g', cap', cur, h', hb, hg, hn, hm, hs, ht⟩
  · simp at h'
  · simp only [Value.slice.injEq, Option.some.injEq, Addr.mk.injEq, and_true, true_and] at h'
    obtain ⟨rfl, rfl⟩ := h'
    refine .inr ⟨g, cap, cur.setIfInBounds j u, rfl, hb, Blk.put hg j u, hn, hm, by simp [hs], ?_⟩
    rw [Array.toList_setIfInBounds, ← ht, List.take_set]
theorem nodesC_set : ∀ (l : List NV) (r : List NV) (m : NV) (kv : Value) (ks : List Nat), (nodesC (l ++ m :: r)).set (l.length * 5 + 4) kv = nodesC (l ++ (⟨m.1.kind, m.1.text, m.1.n, m.1.at', ks⟩, kv) :: r)
  | [], r, m, kv, ks => by simp [nodesC, nodeC]
  | x :: l, r, m, kv, ks => by
    have ih := nodesC_set l r m kv ks
    simp only [nodesC, List.cons_append, List.flatMap_cons] at ih ⊢
    rw [List.length_cons, show (l.length + 1) * 5 + 4 = (nodeC x).length + (l.length * 5 + 4) by simp [nodeC]; omega]
    rw [List.set_append_right _ _ (by omega), Nat.add_sub_cancel_left, ih]

/-- What a call that lays nodes leaves as it was. -/
structure FrT (w w' : World) (TT : Nat) (v : Value) : Prop where
  os : w'.os = w.os
  tape : w'.tape = w.tape
  output : w'.output = w.output
  size : w.heap.size ≤ w'.heap.size
  block : ∀ j, j < w.heap.size → j ≠ TT → v.ownBlock ≠ some j → w'.heap[j]? = w.heap[j]?
theorem FrT.refl (w : World) (TT : Nat) (v : Value) : FrT w w TT v := ⟨rfl, rfl, rfl, Nat.le_refl _, fun _ _ _ _ => rfl⟩
theorem FrT.trans {a b c : World} {TT : Nat} {v v' : Value} (h : FrT a b TT v) (k : FrT b c TT v') (hv : ∀ q, v'.ownBlock = some q → v.ownBlock = some q ∨ a.heap.size ≤ q) : FrT a c TT v :=
  ⟨k.os.trans h.os, k.tape.trans h.tape, k.output.trans h.output, Nat.le_trans h.size k.size, fun j hj ht hn => (k.block j (by have := h.size; omega) ht (fun e => by rcases hv j e with h | h; exact hn h; omega)).trans (h.block j hj ht hn)⟩
theorem FrT.below {a b c : World} {TT : Nat} {v : Value} (h : FrT a b TT v) (k : Below a.heap.size b c) : FrT a c TT v :=
  ⟨k.os.trans h.os, k.tape.trans h.tape, k.output.trans h.output, Nat.le_trans h.size k.size, fun j hj ht hn => (k.block j hj).trans (h.block j hj ht hn)⟩
theorem FrT.grown {a b c : World} {TT : Nat} {v : Value} {row : Option Nat} (h : FrT a b TT v) (k : b.grownBy c row) (hr : ∀ q, row = some q → v.ownBlock = some q ∨ a.heap.size ≤ q) : FrT a c TT v :=
  ⟨k.os.trans h.os, k.tape.trans h.tape, k.output.trans h.output, Nat.le_trans h.size k.size, fun j hj ht hn => (k.block j (by have := h.size; omega) (fun e => by rcases hr j e.symm with h | h; exact hn h; omega)).trans (h.block j hj ht hn)⟩
theorem FrT.set {a b : World} {TT : Nat} {v : Value} (h : FrT a b TT v) {p : Addr} (hp : p.block = TT ∨ v.ownBlock = some p.block ∨ a.heap.size ≤ p.block) (u : Value) : FrT a (b.setCell p u) TT v :=
  ⟨h.os, h.tape, h.output, by have := h.size; simpa [World.setCell] using this, fun j hj ht hn => (Below.heap_setCell _ _ _ _ (by rcases hp with e | e | e; omega; intro he; exact hn (he ▸ e); omega)).trans (h.block j hj ht hn)⟩
theorem TreeW.keep {w w' : World} {TT B : Nat} {v : Value} {l : List NV} (h : TreeW w TT B v l) (hs : w.heap.size ≤ w'.heap.size) (hT : w'.heap[TT]? = w.heap[TT]?) (hv : ∀ q, v.ownBlock = some q → w'.heap[q]? = w.heap[q]?) (hk : ∀ m ∈ l, ∀ q, m.2.ownBlock = some q → w'.heap[q]? = w.heap[q]?) : TreeW w' TT B v l :=
  ⟨h.lt, Nat.le_trans h.top hs, hT.trans h.blk, own_of h.row hv, fun m hm => own_of (h.kids m hm) (hk m hm)⟩
theorem TreeW.alloc {w : World} {TT B : Nat} {v : Value} {l : List NV} (h : TreeW w TT B v l) (o : Obj) : TreeW (w.alloc o) TT B v l :=
  h.keep (by simp) (Below.heap_alloc _ _ _ h.blk.lt) (fun q e => Below.heap_alloc _ _ _ (h.row.lt q e).2) (fun m hm q e => Below.heap_alloc _ _ _ ((h.kids m hm).lt q e).2)

theorem KidsAt.get {w : World} {F : Nat → Prop} : ∀ {xs : List Item} {ps : List Nat}, KidsAt w F ps xs → ∀ i (hi : i < xs.length), ∃ p, ps[i]? = some p ∧ ItemAt w F p xs[i]
  | [], _, _, i, hi => by simp at hi
  | x :: xs, [], h, i, hi => by unfold KidsAt at h; exact h.elim
  | x :: xs, p :: ps, h, i, hi => by
    unfold KidsAt at h
    cases i with
    | zero => exact ⟨p, rfl, h.1⟩
    | succ i =>
      obtain ⟨q, h1, h2⟩ := h.2.get i (by simpa using hi)
      exact ⟨q, by simpa using h1, h2⟩
theorem take_one {α : Type} (l : List α) (i : Nat) (h : i < l.length) : l.take (i + 1) = l.take i ++ [l[i]] := by
  rw [List.take_add_one, List.getElem?_eq_getElem h]; rfl
theorem offs_take_eq (ks : List Item) (o i : Nat) (hi : i ≤ ks.length) : (offs o ks).take i = offs o (ks.take i) := by
  have h := offs_append (ks.take i) (ks.drop i) o
  rw [List.take_append_drop] at h
  rw [h, List.take_left' (by rw [offs_length, List.length_take]; omega)]
theorem offs_take (ks : List Item) (o i : Nat) (h : i < ks.length) : (offs o ks).take (i + 1) = (offs o ks).take i ++ [o + sizeL (ks.take i)] := by
  rw [offs_take_eq ks o (i + 1) (by omega), offs_take_eq ks o i (by omega), take_one ks i h, offs_append]
  rfl
theorem flatL_take (ks : List Item) (o i : Nat) (h : i < ks.length) : flatL o (ks.take (i + 1)) = flatL o (ks.take i) ++ flat (o + sizeL (ks.take i)) ks[i] := by
  rw [take_one ks i h, flatL_append]
  simp [flatL]
theorem sizeL_take (ks : List Item) (i : Nat) (h : i < ks.length) : sizeL (ks.take i) + sizeI ks[i] ≤ sizeL ks := by
  have e : ks = ks.take i ++ (ks[i] :: ks.drop (i + 1)) := by rw [← List.drop_eq_getElem_cons h, List.take_append_drop]
  have := congrArg sizeL e
  rw [sizeL_append] at this
  simp only [sizeL] at this
  omega
theorem ks_len (ks : List Item) : ks.length ≤ sizeL ks := by
  induction ks with
  | nil => simp
  | cons x r ih => have := sizeI_pos x; simp only [List.length_cons, sizeL]; omega
theorem TreeW.grown {w w' : World} {TT B : Nat} {v : Value} {l : List NV} {row : Option Nat} (h : TreeW w TT B v l) (hg : w.grownBy w' row) (hT : row ≠ some TT) (hv : ∀ q, v.ownBlock = some q → row ≠ some q) (hk : ∀ m ∈ l, ∀ q, m.2.ownBlock = some q → row ≠ some q) : TreeW w' TT B v l :=
  h.keep hg.size (hg.block TT h.blk.lt (Ne.symm hT)) (fun q e => hg.block q (h.row.lt q e).2 (Ne.symm (hv q e))) (fun m hm q e => hg.block q ((h.kids m hm).lt q e).2 (Ne.symm (hk m hm q e)))

theorem nodesC_at : ∀ (l : List NV) (r : List NV) (m : NV), (nodesC (l ++ m :: r))[l.length * 5 + 4]? = some m.2
  | [], r, m => by simp [nodesC, nodeC]
  | x :: l, r, m => by
    have ih := nodesC_at l r m
    simp only [nodesC, List.cons_append, List.flatMap_cons] at ih ⊢
    rw [List.length_cons, show (l.length + 1) * 5 + 4 = (nodeC x).length + (l.length * 5 + 4) by simp [nodeC]; omega]
    rw [List.getElem?_append_right (by omega), Nat.add_sub_cancel_left, ih]

def FlatOut (w : World) (TT B : Nat) (v : Value) (l : List NV) (x : Item) (e : Ending) (w' : World) : Prop :=
  e = .returned (.int .i64 (l.length : Nat)) ∧ FrT w w' TT v ∧ ∃ v' l2, TreeW w' TT B v' (l ++ l2) ∧ l2.map (·.1) = flat l.length x ∧ (∀ q, v'.ownBlock = some q → v.ownBlock = some q ∨ w.heap.size ≤ q) ∧ (∀ m ∈ l2, ∀ q, m.2.ownBlock = some q → w.heap.size ≤ q)

set_option maxRecDepth 100000 in
set_option maxHeartbeats 32000000 in
theorem flat_step (x : Item) (ih : ∀ y, sizeI y < sizeI x → ∀ TT X B v l w, TreeW w TT B v l → ItemAt w (fun j => TT < j ∧ j < B) X y → l.length + sizeI y ≤ 200000 → Calls Tryz.prog 56 #[.pointer (some ⟨X, 0, none⟩), .pointer (some ⟨TT, 0, none⟩)] w (FlatOut w TT B v l y))
    (TT X B : Nat) (v : Value) (l : List NV) (w : World) (hT : TreeW w TT B v l) (hx : ItemAt w (fun j => TT < j ∧ j < B) X x) (hl : l.length + sizeI x ≤ 200000) :
    Calls Tryz.prog 56 #[.pointer (some ⟨X, 0, none⟩), .pointer (some ⟨TT, 0, none⟩)] w (FlatOut w TT B v l x) := by
  obtain ⟨k, t, n, a, ks⟩ := x
  obtain ⟨⟨hXT, hXB⟩, kv, ps, hxb, ⟨b0, hrow⟩, hkF, hkids⟩ := hx
  obtain ⟨i0, hi0, hz0, hz1, hz2⟩ := info_parts info43
  obtain ⟨j0, hj0, hy0, hy1, hy2⟩ := info_parts info3
  obtain ⟨A, cc, rfl⟩ := own_form hT.row
  obtain ⟨A2, c2, rfl⟩ := own_form hrow
  have c0 : w.cell? ⟨TT, 0, none⟩ = some (.slice A l.length cc) := hT.blk.cell 0
  have x0 : w.cell? ⟨X, 0, none⟩ = some (.int .u8 k) := hxb.cell 0
  have x1 : w.cell? ⟨X, 1, none⟩ = some (.string ⟨t.toArray⟩) := hxb.cell 1
  have x2 : w.cell? ⟨X, 2, none⟩ = some (.int .i64 n) := hxb.cell 2
  have x3 : w.cell? ⟨X, 3, none⟩ = some (.int .i64 a) := hxb.cell 3
  have x4 : w.cell? ⟨X, 4, none⟩ = some (.slice none 0 0) := hxb.cell 4
  have lX := hxb.lt
  have lT := hT.blk.lt
  have HT := Lib.hid hT; have HX := Lib.hid hxb; have HROW := Lib.hid hrow; have HKF := Lib.hid hkF; have HKD := Lib.hid hkids; have IH := Lib.hid ih
  have hB := hT.top
  have hTB := hT.lt
  have hsz : l.length + (1 + sizeL ks) ≤ 200000 := hl
  have nTX : ¬ X = TT := by omega
  clear hT hxb hrow hkF hkids ih hl
  go_enter Tryz.func56, Tryz.ntmps56
  go_wp2_with fail
  go_region_law ((refine step_append_lies _ (by rfl) _ _ _ (by rfl) B 43 i0 _ 5 64 Tryz.underlying22 hi0 hz0 hz1 hz2 rfl (by omega) (.slice A l.length cc) l.length (nodesC l) (by rfl) ((HT.out.row.alloc _).drew) ⟨w.heap.size, 0, none⟩ 1 1 [.int .u8 k, .string ⟨t.toArray⟩, .int .i64 n, .int .i64 a, .slice none 0 0] (by rfl) (by rfl) (World.news_of_block (cs := #[.int .u8 k, .string ⟨t.toArray⟩, .int .i64 n, .int .i64 a, .slice none 0 0]) (t := 43) (fr := (0, 0)) (heap_alloc_new w _)) (by simp [Value.oneCell']) (by omega) (by unfold maxLen; omega) (by omega) (by simp; omega) (w.heap.size + 1) (by simp) ?_; intro gg cap w1 hown1 hgrow hat hlt; have tb : Blk w1 TT 24 _ := (hgrow.block TT (by simp; omega) (fun e => by have := (HT.out.row.lt TT e.symm).1; omega)).trans ((HT.out.blk.alloc (.cells #[.int .u8 k, .string ⟨t.toArray⟩, .int .i64 n, .int .i64 a, .slice none 0 0] 43))); have d0 : w1.cell? ⟨TT, 0, none⟩ = some (.slice A l.length cc) := tb.cell 0; have d1 := tb.free 0; have HTB := Lib.hid tb; have HOWN := Lib.hid hown1; have HG := Lib.hid hgrow; have HAT := Lib.hid hat; clear tb hown1 hgrow hat))
  all_goals
    have hrowlt := HT.out.row.lt
    have V1 : Hid (∀ q, (Value.slice (some ⟨gg, 0, none⟩) (l.length + 1) cap).ownBlock = some q → (Value.slice A l.length cc).ownBlock = some q ∨ w.heap.size ≤ q) := Lib.hid (fun q e => by
      have hq : gg = q := Option.some.inj (show some gg = some q from e)
      subst hq
      rcases HAT.out with h | h
      · exact Or.inl h
      · exact Or.inr (by omega))
    have hggT : gg ≠ TT := by
      rcases HAT.out with h | h
      · have := hrowlt gg h; omega
      · omega
    have F1 : Hid (FrT w (w1.setCell ⟨TT, 0, none⟩ (.slice (some ⟨gg, 0, none⟩) (l.length + 1) cap)) TT (.slice A l.length cc)) := Lib.hid ((((FrT.refl w TT (.slice A l.length cc)).below (((Below.refl w.heap.size w).alloc (Nat.le_refl _) (.cells #[.int .u8 k, .string ⟨t.toArray⟩, .int .i64 n, .int .i64 a, .slice none 0 0] 43)).drew)).grown HG.out (fun q e => Or.inl e)).set (p := ⟨TT, 0, none⟩) (Or.inl rfl) _)
    have T1 : Hid (TreeW (w1.setCell ⟨TT, 0, none⟩ (.slice (some ⟨gg, 0, none⟩) (l.length + 1) cap)) TT B (.slice (some ⟨gg, 0, none⟩) (l.length + 1) cap) (l ++ [(⟨k, t, n, a, []⟩, .slice none 0 0)])) := Lib.hid (by
      refine ⟨hTB, Nat.le_trans hB F1.out.size, HTB.out.put 0 _, ?_, ?_⟩
      · rw [List.length_append, nodesC_append, nodesC_one]
        exact own_of HOWN.out (fun q e => Below.heap_setCell _ _ _ _ (by
          have hq : gg = q := Option.some.inj (show some gg = some q from e)
          show q ≠ TT; omega))
      · intro m hm
        rcases List.mem_append.1 hm with hm | hm
        · have hk := HT.out.kids m hm
          exact own_of hk (fun q e => F1.out.block q (hk.lt q e).2 (by have := (hk.lt q e).1; omega) (own_apart hk HT.out.row (by decide) e))
        · obtain rfl := List.mem_singleton.1 hm
          exact World.ownsRow_nil _ _ _ _)
    clear d0 d1 HTB HOWN HG HAT
    generalize w1.setCell ⟨TT, 0, none⟩ (.slice (some ⟨gg, 0, none⟩) (l.length + 1) cap) = W1 at *
    have hold : ∀ j, TT < j → j < B → W1.heap[j]? = w.heap[j]? := fun j h1 h2 => F1.out.block j (by omega) (by omega) (fun e => by have := (hrowlt j e).1; omega)
    have y5 : W1.cell? ⟨X, 5, none⟩ = some (.slice A2 ks.length c2) := (Blk.cell (show Blk W1 X 160 _ from (hold X hXT hXB).trans HX.out) 5)
    have HOLD := Lib.hid hold
    have HRL := Lib.hid hrowlt
    clear hold hrowlt c0 x0 x1 x2 x3 x4
    go_wp2_with fail
    go_loopw [6, 32] (fun vk vi wr => ∃ (i : Nat) (vr : Value) (l2 : List NV), i ≤ ks.length ∧ vi = .int .i64 i ∧ Hid (wr.ownsRow B 3 1 vk i (intV ((offs (l.length + 1) ks).take i))) ∧ Hid (TreeW wr TT B vr (l ++ [(⟨k, t, n, a, []⟩, .slice none 0 0)] ++ l2) ∧ l2.map (·.1) = flatL (l.length + 1) (ks.take i)) ∧ Hid (FrT w wr TT (.slice A l.length cc)) ∧ Hid ((∀ q, vr.ownBlock = some q → (Value.slice A l.length cc).ownBlock = some q ∨ w.heap.size ≤ q) ∧ (∀ m ∈ l2, ∀ q, m.2.ownBlock = some q → w.heap.size ≤ q) ∧ (∀ q, vk.ownBlock = some q → w.heap.size ≤ q ∧ ∀ m ∈ l2, m.2.ownBlock ≠ some q))) (fun _ vi _ => ks.length - (intOf vi).toNat)
    case atStart => exact ⟨0, _, [], Nat.zero_le _, rfl, Lib.hid (World.ownsRow_nil _ _ _ _), Lib.hid ⟨by rw [List.append_nil]; exact T1.out, rfl⟩, F1, Lib.hid ⟨V1.out, fun m hm => by simp at hm, fun q e => by simp [Value.ownBlock] at e⟩⟩
    case round =>
      obtain ⟨i, vr, l2, hi, rfl, HVK, HTW, HF, HS⟩ := hrel
      by_cases hlt : i < ks.length
      · have hsl := ks_len ks
        obtain ⟨q0, cap0, hA2, _, _⟩ := HROW.out.form (by omega)
        have hA2' : A2 = some ⟨q0, 0, none⟩ := by injection hA2
        subst hA2'
        obtain ⟨p, hp, hip⟩ := HKD.out.get i hlt
        have hq0 := HKF.out q0 rfl
        have hcell : wr.cell? ⟨q0, i, none⟩ = some (.pointer (some ⟨p, 0, none⟩)) := by
          have h1 := HROW.out.cellAt i (by omega)
          have h2 : (ptrs ps)[i]? = some (.pointer (some ⟨p, 0, none⟩)) := by unfold ptrs; rw [List.getElem?_map, hp]; rfl
          rw [h2] at h1
          exact (World.cell?_of_block (w := w) (HF.out.block q0 (by omega) (by omega) (fun e => by have := (HRL.out q0 e).1; omega))).trans h1
        have HIP := Lib.hid (hip.keep (w' := wr) (fun j hj hl => HF.out.block j hl (by omega) (fun e => by have := (HRL.out j e).1; omega)))
        have hli : (i : Int) < (ks.length : Int) := by omega
        have hli0 : (0 : Int) ≤ (i : Int) := by omega
        have hst := sizeL_take ks i hlt
        have hl2 : l2.length = sizeL (ks.take i) := by
          have := congrArg List.length HTW.out.2
          rw [List.length_map, flatL_length] at this
          exact this
        have HL2 := Lib.hid hl2
        clear hip hA2 hp hl2
        go_wp2_with fail
        refine (IH.out ks[i] (by simp only [sizeI]; omega) TT p B vr _ wr HTW.out.1 HIP.out (by have := HL2.out; simp only [List.length_append, List.length_singleton]; omega)).mono ?_
        rintro e w4 ⟨rfl, hf4, v4, l3, ht4, hl3, hv4, hr4⟩
        have hidx : ((l ++ [((⟨k, t, n, a, []⟩, .slice none 0 0) : NV)] ++ l2).length : Nat) = l.length + 1 + sizeL (ks.take i) := by have := HL2.out; simp only [List.length_append, List.length_singleton]; omega
        rw [hidx] at hl3 ⊢
        have HF4 := Lib.hid (HF.out.trans hf4 HS.out.1)
        have hVK4 := own_of (w' := w4) HVK.out (fun q e => hf4.block q (HVK.out.lt q e).2 (by have := (HVK.out.lt q e).1; omega) (own_apart HVK.out HTW.out.1.row (by decide) e))
        have HVK4 := Lib.hid (hVK4.alloc (.cells #[.int .i64 ((l.length + 1 + sizeL (ks.take i) : Nat) : Int)] 3))
        have HT4 := Lib.hid (ht4.alloc (.cells #[.int .i64 ((l.length + 1 + sizeL (ks.take i) : Nat) : Int)] 3))
        have HL3 := Lib.hid hl3; have HV4 := Lib.hid hv4; have HR4 := Lib.hid hr4
        have hs4 : wr.heap.size ≤ w4.heap.size := hf4.size
        have hsw : w.heap.size ≤ wr.heap.size := HF.out.size
        clear hf4 hVK4 ht4 hl3 hv4 hr4 hidx hcell
        generalize hidx : l.length + 1 + sizeL (ks.take i) = idx at *
        have HIDX := Lib.hid hidx
        clear hidx
        go_wp2_with (at_builtin; refine wpList_append_lies _ rfl _ _ 41 rfl B 3 j0 (.int .i64 0) 1 8 Tryz.underlying41 hj0 hy0 hy1 hy2 rfl (by decide) u6 i _ rfl HVK4.out ⟨w4.heap.size, 0, none⟩ 1 1 [.int .i64 ((idx : Nat) : Int)] rfl rfl (World.news_of_block (cs := #[.int .i64 ((idx : Nat) : Int)]) (t := 3) (fr := (0, 0)) (heap_alloc_new w4 _)) (by simp [Value.oneCell']) (by omega) (by unfold maxLen; omega) (by omega) (by simp; omega) _ rfl ?_)
        intro g5 cap5 w5 hown5 hgrow5 hat5 hlt5
        have hVB := HVK4.out.lt
        have HOWN5 := Lib.hid hown5; have HG5 := Lib.hid hgrow5; have HAT5 := Lib.hid hat5; have HVB := Lib.hid hVB
        clear hown5 hgrow5 hat5 hVB
        go_wp2_with fail
        go_roundw
        case rel =>
          have hLt := HS.out.2.2
          refine ⟨i + 1, v4, l2 ++ l3, by omega, by go_num, Lib.hid ?_, Lib.hid ⟨?_, ?_⟩, Lib.hid ?_, Lib.hid ⟨?_, ?_, ?_⟩⟩
          · rw [offs_take ks _ i hlt, HIDX.out]
            have : intV ((offs (l.length + 1) ks).take i ++ [idx]) = intV ((offs (l.length + 1) ks).take i) ++ [.int .i64 (idx : Int)] := by simp [intV]
            rw [this]; exact HOWN5.out
          · rw [← List.append_assoc]
            refine HT4.out.grown HG5.out (fun e => by have := (HVB.out TT e).1; omega) (fun q e => fun e' => own_apart HT4.out.row HVK4.out (by decide) e e') (fun m hm q e e' => ?_)
            have hq := HVB.out q e'
            rcases List.mem_append.1 hm with hm | hm
            · rcases List.mem_append.1 hm with hm | hm
              · rcases List.mem_append.1 hm with hm | hm
                · have h1 := ((HT.out.kids m hm).lt q e).2
                  have h2 := (hLt q e').1
                  omega
                · obtain rfl := List.mem_singleton.1 hm
                  simp [Value.ownBlock] at e
              · exact (hLt q e').2 m hm e
            · have h1 := HR4.out m hm q e
              have h2 := (HVK.out.lt q e').2
              omega
          · rw [List.map_append, HTW.out.2, HL3.out, flatL_take ks _ i hlt, HIDX.out]
          · exact ((HF4.out.below ((Below.refl w.heap.size w4).alloc (by omega) _))).grown HG5.out (fun q e => Or.inr (hLt q e).1)
          · intro q e
            rcases HV4.out q e with h | h
            · exact HS.out.1 q h
            · exact Or.inr (by omega)
          · intro m hm q e
            rcases List.mem_append.1 hm with hm | hm
            · exact HS.out.2.1 m hm q e
            · have := HR4.out m hm q e; omega
          · intro q e
            have hq : g5 = q := Option.some.inj (show some g5 = some q from e)
            subst hq
            rcases HAT5.out with h | h
            · refine ⟨(hLt g5 h).1, fun m hm e2 => ?_⟩
              rcases List.mem_append.1 hm with hm | hm
              · exact (hLt g5 h).2 m hm e2
              · have h1 := HR4.out m hm g5 e2
                have h2 := (HVK.out.lt g5 h).2
                omega
            · have hz : (w4.alloc (.cells #[.int .i64 ((idx : Nat) : Int)] 3)).heap.size = w4.heap.size + 1 := by simp
              refine ⟨by omega, fun m hm e2 => ?_⟩
              have := ((HT4.out.kids m (by rw [List.append_assoc]; exact List.mem_append_right _ hm)).lt g5 e2).2
              omega
        case measure => simp [intOf]; omega
      · obtain rfl : i = ks.length := by omega
        obtain ⟨A6, c6, rfl⟩ := own_form HVK.out
        obtain ⟨g, cp, rfl, hgB, hgl⟩ := HTW.out.1.row.form (by simp only [List.length_append, List.length_singleton]; omega)
        obtain ⟨N, hN⟩ : ∃ N, (l ++ [((⟨k, t, n, a, []⟩, .slice none 0 0) : NV)] ++ l2).length = N := ⟨_, rfl⟩
        have hNl : l.length < N := by rw [← hN]; simp only [List.length_append, List.length_singleton]; omega
        have HN := Lib.hid hN
        have eapp : l ++ [((⟨k, t, n, a, []⟩, .slice none 0 0) : NV)] ++ l2 = l ++ ((⟨k, t, n, a, []⟩, .slice none 0 0) : NV) :: l2 := by simp
        have c0 : wr.cell? ⟨TT, 0, none⟩ = some (.slice (some ⟨g, 0, none⟩) N cp) := by rw [← hN]; exact HTW.out.1.blk.cell 0
        have hrow := HTW.out.1.row
        obtain ⟨cur, hcur⟩ := own_type hrow (show _ = some g from rfl)
        have c1 : wr.cell? ⟨g, l.length * 5 + 4, none⟩ = some (.slice none 0 0) := by
          rw [hrow.cellAt _ (by rw [hN]; omega), eapp, nodesC_at]
        have c2 : wr.frozen? ⟨g, l.length * 5 + 4, none⟩ = false := Blk.free hcur _
        have hi0 : (0 : Int) ≤ (l.length : Int) := by omega
        have hi1 : (l.length : Int) < (N : Int) := by omega
        have hfull : (offs (l.length + 1) ks).take ks.length = offs (l.length + 1) ks := List.take_of_length_le (by rw [offs_length]; omega)
        have hfull2 : ks.take ks.length = ks := List.take_length
        have HFU := Lib.hid hfull; have HFU2 := Lib.hid hfull2; have HEA := Lib.hid eapp; have HROW2 := Lib.hid hrow
        clear hN eapp hrow hcur hfull hfull2
        go_wp2_with fail
        go_ret
        have hvk := HVK.out
        rw [HFU.out] at hvk
        have htw := HTW.out
        rw [HFU2.out] at htw
        have hrow3 := own_set HROW2.out (l.length * 5 + 4) (Value.slice A6 ks.length c6)
        rw [HEA.out, nodesC_set l l2 _ (Value.slice A6 ks.length c6) (offs (l.length + 1) ks)] at hrow3
        refine ⟨rfl, HF.out.set (p := ⟨g, l.length * 5 + 4, none⟩) (by rcases HS.out.1 g rfl with h | h; exact Or.inr (Or.inl h); exact Or.inr (Or.inr h)) _, .slice (some ⟨g, 0, none⟩) (l ++ ((⟨k, t, n, a, []⟩, .slice none 0 0) : NV) :: l2).length cp, (⟨k, t, n, a, offs (l.length + 1) ks⟩, (Value.slice A6 ks.length c6)) :: l2, ⟨hTB, ?_, ?_, ?_, ?_⟩, ?_, ?_, ?_⟩
        · have := htw.1.top; simpa [World.setCell] using this
        · have := htw.1.blk
          rw [HEA.out] at this
          exact this.far (by omega) _ _
        · have e : (l ++ ((⟨k, t, n, a, offs (l.length + 1) ks⟩, (Value.slice A6 ks.length c6)) : NV) :: l2).length = (l ++ ((⟨k, t, n, a, []⟩, .slice none 0 0) : NV) :: l2).length := by simp
          rw [e]
          exact hrow3
        · intro m hm
          have far : ∀ q, q ≠ g → (wr.setCell ⟨g, l.length * 5 + 4, none⟩ (Value.slice A6 ks.length c6)).heap[q]? = wr.heap[q]? := fun q hq => Below.heap_setCell _ _ _ _ hq
          have old : ∀ m ∈ l ++ [((⟨k, t, n, a, []⟩, .slice none 0 0) : NV)] ++ l2, (wr.setCell ⟨g, l.length * 5 + 4, none⟩ (Value.slice A6 ks.length c6)).ownsRow B 3 1 m.2 m.1.kids.length (intV m.1.kids) := fun m hm =>
            own_of (htw.1.kids m hm) (fun q e => far q (fun hq => own_apart (htw.1.kids m hm) htw.1.row (by decide) e (by rw [hq]; rfl)))
          rcases List.mem_append.1 hm with hm | hm
          · exact old m (by simp [hm])
          · rcases List.mem_cons.1 hm with rfl | hm
            · have := own_of (w' := wr.setCell ⟨g, l.length * 5 + 4, none⟩ (Value.slice A6 ks.length c6)) hvk (fun q e => far q (fun hq => own_apart hvk htw.1.row (by decide) e (by rw [hq]; rfl)))
              show World.ownsRow _ B 3 1 (Value.slice A6 ks.length c6) (offs (l.length + 1) ks).length _
              rw [offs_length]
              exact this
            · exact old m (by simp [hm])
        · simp only [List.map_cons, flat]
          rw [htw.2]
        · intro q e
          exact HS.out.1 q e
        · intro m hm q e
          rcases List.mem_cons.1 hm with rfl | hm
          · exact (HS.out.2.2 q e).1
          · exact HS.out.2.1 m hm q e
theorem flat_any (x : Item) : ∀ (TT X B : Nat) (v : Value) (l : List NV) (w : World), TreeW w TT B v l → ItemAt w (fun j => TT < j ∧ j < B) X x → l.length + sizeI x ≤ 200000 → Calls Tryz.prog 56 #[.pointer (some ⟨X, 0, none⟩), .pointer (some ⟨TT, 0, none⟩)] w (FlatOut w TT B v l x) := by
  have key : ∀ N (x : Item), sizeI x ≤ N → ∀ (TT X B : Nat) (v : Value) (l : List NV) (w : World), TreeW w TT B v l → ItemAt w (fun j => TT < j ∧ j < B) X x → l.length + sizeI x ≤ 200000 → Calls Tryz.prog 56 #[.pointer (some ⟨X, 0, none⟩), .pointer (some ⟨TT, 0, none⟩)] w (FlatOut w TT B v l x) := by
    intro N
    induction N with
    | zero => intro x h; have := sizeI_pos x; omega
    | succ N ih => intro x h TT X B v l w hT hx hl; exact flat_step x (fun y hy => ih y (by omega)) TT X B v l w hT hx hl
  exact key (sizeI x) x (Nat.le_refl _)
end Go.Proofs.YtkkeocnnecegbaaGreatDoor
