/- Items in memory; the walk over add. By an AI agent. -/
import Derived.Test.YtkkeocnnecegbaaGreatDoorPwB
namespace Go.Proofs.YtkkeocnnecegbaaGreatDoor
open Go.RowKit

def ptrs (ps : List Nat) : List Value := ps.map (fun p => .pointer (some ⟨p, 0, none⟩))
mutual
/-- At p lies that item; all its blocks are of F. -/
def ItemAt (w : World) (F : Nat → Prop) : Nat → Item → Prop
  | p, .mk k t n a ks => F p ∧ ∃ v ps, Blk w p 160 #[.int .u8 k, .string ⟨t.toArray⟩, .int .i64 n, .int .i64 a, .slice none 0 0, v] ∧ (∃ b, w.ownsRow b 93 1 v ks.length (ptrs ps)) ∧ (∀ q, v.ownBlock = some q → F q) ∧ KidsAt w F ps ks
def KidsAt (w : World) (F : Nat → Prop) : List Nat → List Item → Prop
  | [], [] => True
  | p :: ps, x :: xs => ItemAt w F p x ∧ KidsAt w F ps xs
  | _, _ => False
end
theorem own_of {w w' : World} {base e size n : Nat} {v : Value} {xs : List Value} (h : w.ownsRow base e size v n xs) (hs : ∀ q, v.ownBlock = some q → w'.heap[q]? = w.heap[q]?) : w'.ownsRow base e size v n xs := by
  refine ⟨h.1, ?_⟩
  rcases h.2 with hn | ⟨g, cap, cur, rfl, hb, hgg, rest⟩
  · exact .inl hn
  · exact .inr ⟨g, cap, cur, rfl, hb, (hs g rfl).trans hgg, rest⟩
theorem own_lower {w : World} {base base' e size n : Nat} {v : Value} {xs : List Value} (h : w.ownsRow base e size v n xs) (hb : ∀ q, v.ownBlock = some q → base' ≤ q) : w.ownsRow base' e size v n xs := by
  refine ⟨h.1, ?_⟩
  rcases h.2 with hn | ⟨g, cap, cur, rfl, _, rest⟩
  · exact .inl hn
  · exact .inr ⟨g, cap, cur, rfl, hb g rfl, rest⟩
mutual
theorem ItemAt.keep {w w' : World} {F : Nat → Prop} (hs : ∀ j, F j → j < w.heap.size → w'.heap[j]? = w.heap[j]?) : ∀ {x : Item} {p : Nat}, ItemAt w F p x → ItemAt w' F p x
  | .mk k t n a ks, p, h => by
    obtain ⟨hp, v, ps, hb, ⟨b, ho⟩, hq, hk⟩ := h
    exact ⟨hp, v, ps, (hs p hp hb.lt).trans hb, ⟨b, own_of ho (fun q e => hs q (hq q e) (ho.lt q e).2)⟩, hq, hk.keep hs⟩
theorem KidsAt.keep {w w' : World} {F : Nat → Prop} (hs : ∀ j, F j → j < w.heap.size → w'.heap[j]? = w.heap[j]?) : ∀ {xs : List Item} {ps : List Nat}, KidsAt w F ps xs → KidsAt w' F ps xs
  | [], [], _ => by unfold KidsAt; trivial
  | [], _ :: _, h => by unfold KidsAt at h; exact h.elim
  | x :: xs, [], h => by unfold KidsAt at h; exact h.elim
  | x :: xs, p :: ps, h => by
    unfold KidsAt at h ⊢
    exact ⟨h.1.keep hs, h.2.keep hs⟩
end
mutual
theorem ItemAt.mono {w : World} {F G : Nat → Prop} (hs : ∀ j, F j → j < w.heap.size → G j) : ∀ {x : Item} {p : Nat}, ItemAt w F p x → ItemAt w G p x
  | .mk k t n a ks, p, h => by
    obtain ⟨hp, v, ps, hb, ⟨b, ho⟩, hq, hk⟩ := h
    exact ⟨hs p hp hb.lt, v, ps, hb, ⟨b, ho⟩, fun q e => hs q (hq q e) (ho.lt q e).2, hk.mono hs⟩
theorem KidsAt.mono {w : World} {F G : Nat → Prop} (hs : ∀ j, F j → j < w.heap.size → G j) : ∀ {xs : List Item} {ps : List Nat}, KidsAt w F ps xs → KidsAt w G ps xs
  | [], [], _ => by unfold KidsAt; trivial
  | [], _ :: _, h => by unfold KidsAt at h; exact h.elim
  | x :: xs, [], h => by unfold KidsAt at h; exact h.elim
  | x :: xs, p :: ps, h => by
    unfold KidsAt at h ⊢
    exact ⟨h.1.mono hs, h.2.mono hs⟩
end
theorem KidsAt.append {w : World} {F : Nat → Prop} : ∀ {xs ys : List Item} {ps qs : List Nat}, KidsAt w F ps xs → KidsAt w F qs ys → KidsAt w F (ps ++ qs) (xs ++ ys)
  | [], _, [], _, _, h => h
  | [], _, _ :: _, _, h, _ => by unfold KidsAt at h; exact h.elim
  | x :: xs, _, [], _, h, _ => by unfold KidsAt at h; exact h.elim
  | x :: xs, ys, p :: ps, qs, h, h2 => by
    unfold KidsAt at h
    show KidsAt w F (p :: (ps ++ qs)) (x :: (xs ++ ys))
    unfold KidsAt
    exact ⟨h.1, h.2.append h2⟩
theorem KidsAt.len {w : World} {F : Nat → Prop} : ∀ {xs : List Item} {ps : List Nat}, KidsAt w F ps xs → ps.length = xs.length
  | [], [], _ => rfl
  | [], _ :: _, h => by unfold KidsAt at h; exact h.elim
  | x :: xs, [], h => by unfold KidsAt at h; exact h.elim
  | x :: xs, p :: ps, h => by
    unfold KidsAt at h
    simp [h.2.len]
theorem KidsAt.one {w : World} {F : Nat → Prop} {p : Nat} {x : Item} (h : ItemAt w F p x) : KidsAt w F [p] [x] := by
  unfold KidsAt
  exact ⟨h, by unfold KidsAt; trivial⟩
theorem KidsAt.nil {w : World} {F : Nat → Prop} : KidsAt w F [] [] := by unfold KidsAt; trivial

/-- An item that is being read: at X; the row of its kids, and these, lie from L on, below C. -/
structure OpenI (w : World) (X L C : Nat) (x : Item) : Prop where
  lt : X < L
  le : L ≤ C
  top : C ≤ w.heap.size
  ex : ∃ k t n a ks v ps, ∃ F : Nat → Prop, x = .mk k t n a ks ∧ Blk w X 160 #[.int .u8 (k : Nat), .string ⟨t.toArray⟩, .int .i64 n, .int .i64 (a : Nat), .slice none 0 0, v] ∧ w.ownsRow L 93 1 v ks.length (ptrs ps) ∧ KidsAt w F ps ks ∧ (∀ j, F j → L ≤ j ∧ j < C ∧ v.ownBlock ≠ some j) ∧ (∀ q, v.ownBlock = some q → q < C)
theorem OpenI.new {w : World} {X L k a : Nat} {t : List UInt8} {n : Int} (h : Blk w X 160 #[.int .u8 k, .string ⟨t.toArray⟩, .int .i64 n, .int .i64 a, .slice none 0 0, .slice none 0 0]) (hl : X < L) (ht : L ≤ w.heap.size) : OpenI w X L L (.mk k t n a []) :=
  ⟨hl, Nat.le_refl _, ht, k, t, n, a, [], _, [], (fun _ => False), rfl, h, World.ownsRow_nil _ _ _ _, .nil, fun j h => h.elim, fun q e => by simp [Value.ownBlock] at e⟩
theorem OpenI.keep {w w' : World} {X L C B R : Nat} {x : Item} (h : OpenI w X L C x) (hk : KeepR B R w w') (hC : C ≤ B) (hR : R < X) : OpenI w' X L C x := by
  obtain ⟨h1, h2, h3, k, t, n, a, ks, v, ps, F, rfl, h4, h5, h6, h7, h8⟩ := h
  refine ⟨h1, h2, Nat.le_trans h3 hk.size, k, t, n, a, ks, v, ps, F, rfl, (hk.block X (by omega) (by omega)).trans h4, own_of h5 (fun q e => hk.block q (by have := h8 q e; omega) (by have := (h5.lt q e).1; omega)), h6.keep (fun j hj _ => hk.block j (by have := h7 j hj; omega) (by have := h7 j hj; omega)), h7, h8⟩
theorem OpenI.grow {w : World} {X L C C' : Nat} {x : Item} (h : OpenI w X L C x) (hC : C ≤ C') (ht : C' ≤ w.heap.size) : OpenI w X L C' x := by
  obtain ⟨h1, h2, h3, k, t, n, a, ks, v, ps, F, rfl, h4, h5, h6, h7, h8⟩ := h
  exact ⟨h1, by omega, ht, k, t, n, a, ks, v, ps, F, rfl, h4, h5, h6, fun j hj => by obtain ⟨a, b, c⟩ := h7 j hj; exact ⟨a, by omega, c⟩, fun q e => by have := h8 q e; omega⟩
theorem OpenI.close {w : World} {X L C : Nat} {x : Item} (h : OpenI w X L C x) : ItemAt w (fun j => X ≤ j) X x := by
  obtain ⟨h1, h2, h3, k, t, n, a, ks, v, ps, F, rfl, h4, h5, h6, h7, h8⟩ := h
  exact ⟨Nat.le_refl _, v, ps, h4, ⟨L, h5⟩, fun q e => by have := (h5.lt q e).1; omega, h6.mono (fun j hj _ => by have := h7 j hj; omega)⟩
theorem OpenI.blk {w : World} {X L C k a : Nat} {t : List UInt8} {n : Int} {ks : List Item} (h : OpenI w X L C (.mk k t n a ks)) : ∃ v, Blk w X 160 #[.int .u8 k, .string ⟨t.toArray⟩, .int .i64 n, .int .i64 a, .slice none 0 0, v] := by
  obtain ⟨h1, h2, h3, k, t, n, a, ks, v, ps, F, e, h4, _⟩ := h
  injection e with e1 e2 e3 e4 e5
  subst e1 e2 e3 e4
  exact ⟨v, h4⟩
theorem OpenI.set {w : World} {X L C i : Nat} {u : Value} {k a k' a' : Nat} {t t' : List UInt8} {n n' : Int} {ks : List Item} (h : OpenI w X L C (.mk k t n a ks))
    (he : ∀ v, (#[.int .u8 k, .string ⟨t.toArray⟩, .int .i64 n, .int .i64 a, .slice none 0 0, v] : Array Value).setIfInBounds i u = #[.int .u8 k', .string ⟨t'.toArray⟩, .int .i64 n', .int .i64 a', .slice none 0 0, v]) :
    OpenI (w.setCell ⟨X, i, none⟩ u) X L C (.mk k' t' n' a' ks) := by
  obtain ⟨h1, h2, h3, k, t, n, a, ks, v, ps, F, e, h4, h5, h6, h7, h8⟩ := h
  injection e with e1 e2 e3 e4 e5
  subst e1 e2 e3 e4 e5
  have far : ∀ j, j ≠ X → (w.setCell ⟨X, i, none⟩ u).heap[j]? = w.heap[j]? := fun j hj => Below.heap_setCell _ _ _ _ hj
  refine ⟨h1, h2, by simpa [World.setCell] using h3, k', t', n', a', _, v, ps, F, rfl, ?_, own_of h5 (fun q e => far q (by have := (h5.lt q e).1; omega)), h6.keep (fun j hj _ => far j (by have := h7 j hj; omega)), h7, h8⟩
  have := h4.put i u
  rw [he v] at this
  exact this
theorem OpenI.text {w : World} {X L C k a : Nat} {t : List UInt8} {n : Int} {ks : List Item} (h : OpenI w X L C (.mk k t n a ks)) (t' : List UInt8) : OpenI (w.setCell ⟨X, 1, none⟩ (.string ⟨t'.toArray⟩)) X L C (.mk k t' n a ks) := h.set (fun _v => rfl)
theorem OpenI.num {w : World} {X L C k a : Nat} {t : List UInt8} {n : Int} {ks : List Item} (h : OpenI w X L C (.mk k t n a ks)) (n' : Int) : OpenI (w.setCell ⟨X, 2, none⟩ (.int .i64 n')) X L C (.mk k t n' a ks) := h.set (fun _v => rfl)
theorem OpenI.kind {w : World} {X L C k a : Nat} {t : List UInt8} {n : Int} {ks : List Item} (h : OpenI w X L C (.mk k t n a ks)) (k' : Nat) : OpenI (w.setCell ⟨X, 0, none⟩ (.int .u8 k')) X L C (.mk k' t n a ks) := h.set (fun _v => rfl)

theorem blk_put5 {W : World} {X : Nat} {c0 c1 c2 c3 c4 v : Value} (h : Blk W X 160 #[c0, c1, c2, c3, c4, v]) (u : Value) : Blk (W.setCell ⟨X, 5, none⟩ u) X 160 #[c0, c1, c2, c3, c4, u] := h.put 5 u
theorem info93 : (Tryz.prog.info? 93).map (fun i => (i.zero, i.size, i.bytes)) = some (some (.pointer none), 1, 8) := by kernel_rfl
theorem ptrs_one (ps : List Nat) : ∀ u ∈ ptrs ps, u.oneCell' = true := by
  intro u hu
  simp only [ptrs, List.mem_map] at hu
  obtain ⟨p, _, rfl⟩ := hu
  rfl
theorem blk_news {w : World} {K : Nat} {cs : List Value} (h : Blk w K 93 cs.toArray) : ∀ j u, cs[j]? = some u → w.cell? ((⟨K, 0, none⟩ : Addr).add j) = some u := by
  intro j u hu
  have hadd : (⟨K, 0, none⟩ : Addr).add j = ⟨K, j, none⟩ := by unfold Addr.add; split <;> simp_all
  rw [hadd, h.cell j]; simpa using hu

set_option maxHeartbeats 2000000 in
/-- add, onto an item in memory, as it lies there. -/
theorem add_raw (X L K m n : Nat) (c0 c1 c2 c3 c4 v : Value) (ps qs : List Nat) (w : World) (hx : Blk w X 160 #[c0, c1, c2, c3, c4, v]) (ho : w.ownsRow L 93 1 v n (ptrs ps)) (hXL : v.ownBlock ≠ some X) (hL : L ≤ w.heap.size) (hK : Blk w K 93 (ptrs qs).toArray) (hm : qs.length = m) (hm0 : 0 < m) (hn : n + m ≤ 1000000) :
    Calls Tryz.prog 53 #[.pointer (some ⟨X, 0, none⟩), .slice (some ⟨K, 0, none⟩) m m] w fun e w' => e = .returned (.pointer (some ⟨X, 0, none⟩)) ∧ ∃ v', Blk w' X 160 #[c0, c1, c2, c3, c4, v'] ∧ w'.ownsRow L 93 1 v' (n + m) (ptrs (ps ++ qs)) ∧ (v'.ownBlock = v.ownBlock ∨ v'.ownBlock = some w.heap.size) ∧ w.os = w'.os ∧ w.tape = w'.tape ∧ w.output = w'.output ∧ w.heap.size ≤ w'.heap.size ∧ (∀ j, j < w.heap.size → j ≠ X → v.ownBlock ≠ some j → w'.heap[j]? = w.heap[j]?) := by
  obtain ⟨i0, hi0, hz0, hz1, hz2⟩ := info_parts info93
  have x5 : w.cell? ⟨X, 5, none⟩ = some v := hx.cell 5
  have xf := hx.free 5
  have hXl := hx.lt
  have HX := Lib.hid hx; have HO := Lib.hid ho; have HK := Lib.hid hK; have HV := Lib.hid hXL
  clear hx ho hK hXL
  have HM := Lib.hid hm; clear hm
  go_enter Tryz.func53, Tryz.ntmps53
  go_wp2_with (at_builtin; refine wpList_append_lies _ rfl _ _ 158 rfl L 93 i0 (.pointer none) 1 8 Tryz.underlying158 hi0 hz0 hz1 hz2 rfl (by decide) v n (ptrs ps) rfl HO.out ⟨K, 0, none⟩ m m (ptrs qs) rfl ?_ (blk_news HK.out) (ptrs_one qs) hm0 (by unfold maxLen; omega) (by omega) hL w.heap.size rfl ?_)
  · simp [ptrs, HM.out]
  intro g cap w1 hown hgrow hat hlt
  have hX1 : Blk w1 X 160 #[c0, c1, c2, c3, c4, v] := (hgrow.block X hXl (fun e => HV.out e.symm)).trans HX.out
  have HX1 := Lib.hid hX1
  have y5 : w1.cell? ⟨X, 5, none⟩ = some v := hX1.cell 5
  have yf := hX1.free 5
  have HG := Lib.hid hgrow; have HA := Lib.hid hat; have HO1 := Lib.hid hown
  clear hX1 hgrow hat hown x5 xf
  go_wp2_with fail
  go_ret
  refine ⟨rfl, .slice (some ⟨g, 0, none⟩) (n + m) cap, ?_, ?_, ?_, HG.out.os.symm, HG.out.tape.symm, HG.out.output.symm, by have := HG.out.size; simpa [World.setCell] using this, ?_⟩
  · exact blk_put5 HX1.out _
  · rw [show ptrs (ps ++ qs) = ptrs ps ++ ptrs qs by simp [ptrs]]
    refine own_of HO1.out (fun q e => Below.heap_setCell _ _ _ _ ?_)
    intro hq
    have hgX : g = X := (Option.some.inj (show some g = some q from e)).trans hq
    rcases HA.out with h | h
    · exact HV.out (by rw [h, hgX])
    · omega
  · rcases HA.out with h | h
    · exact Or.inl h.symm
    · exact Or.inr (by rw [h]; rfl)
  · intro j hj hx hv
    rw [Below.heap_setCell _ _ _ _ hx]
    exact HG.out.block j hj (fun e => hv e.symm)

/-- add, onto an item that is being read. -/
theorem add_any (X L C K m k a : Nat) (t : List UInt8) (n : Int) (ks xs : List Item) (qs : List Nat) (w : World) (h : OpenI w X L C (.mk k t n a ks)) (hK : Blk w K 93 (ptrs qs).toArray) (hk : KidsAt w (fun j => C ≤ j) qs xs) (hm : qs.length = m) (hm0 : 0 < m) (hn : ks.length + m ≤ 1000000) :
    Calls Tryz.prog 53 #[.pointer (some ⟨X, 0, none⟩), .slice (some ⟨K, 0, none⟩) m m] w fun e w' => e = .returned (.pointer (some ⟨X, 0, none⟩)) ∧ OpenI w' X L w'.heap.size (.mk k t n a (ks ++ xs)) ∧ KeepR L X w w' := by
  obtain ⟨h1, h2, h3, k, t, n, a, ks, v, ps, F, e, h4, h5, h6, h7, h8⟩ := h
  injection e with e1 e2 e3 e4 e5
  subst e1 e2 e3 e4 e5
  refine (add_raw X L K m _ _ _ _ _ _ v ps qs w h4 h5 (fun e => by have := (h5.lt X e).1; omega) (by omega) hK hm hm0 hn).mono ?_
  rintro e w' ⟨rfl, v', g1, g2, g3, g4, g5, g6, g7, g8⟩
  have hxs := hk.len
  refine ⟨rfl, ⟨h1, by omega, Nat.le_refl _, k, t, n, a, _, v', ps ++ qs, (fun j => F j ∨ (C ≤ j ∧ j < w.heap.size)), rfl, g1, by rw [List.length_append, ← hxs, hm]; exact g2, ?_, ?_, fun q e => (g2.lt q e).2⟩, ⟨g4.symm, g5.symm, g6.symm, g7, fun j hj hx => g8 j (by omega) hx (fun e => by have := (h5.lt j e).1; omega)⟩⟩
  · refine KidsAt.append ((h6.keep (fun j hj hl => g8 j hl (by have := h7 j hj; omega) (h7 j hj).2.2)).mono (fun j hj _ => Or.inl hj)) ?_
    have hk' : KidsAt w (fun j => C ≤ j ∧ j < w.heap.size) qs xs := hk.mono (fun j hj hl => ⟨hj, hl⟩)
    exact (hk'.keep (fun j hj hl => g8 j hl (by omega) (fun e => by have := h8 j e; omega))).mono (fun j hj _ => Or.inr hj)
  · intro j hj
    have hrow : L ≤ j ∧ j < w.heap.size ∧ v.ownBlock ≠ some j := by
      rcases hj with hj | hj
      · obtain ⟨a, b, c⟩ := h7 j hj; exact ⟨a, by omega, c⟩
      · exact ⟨by omega, hj.2, fun e => by have := h8 j e; omega⟩
    refine ⟨hrow.1, by omega, fun e => ?_⟩
    rcases g3 with g3 | g3
    · exact hrow.2.2 (by rw [← g3]; exact e)
    · rw [e] at g3; injection g3 with g3; omega
end Go.Proofs.YtkkeocnnecegbaaGreatDoor
