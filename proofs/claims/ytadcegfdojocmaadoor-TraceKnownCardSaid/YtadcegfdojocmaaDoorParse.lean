/- The walk over the package trace's Parse: the trace that a text is, or none. By an AI agent. -/
import Derived.Test.YtadcegfdojocmaaDoorRangeD
import Derived.Test.YtadcegfdojocmaaDoorRefText
import Derived.Deep.AppendLies
import Derived.Maps.AppendAt
namespace Go.Proofs.YtadcegfdojocmaaDoor
open Go.RowKit
attribute [local go_sem] Oper.semAt_some

/-- The cells of a list of events. -/
def evRow (X : List (Nat × Int)) : List Value := X.flatMap fun x => [.int .u8 x.1, .int .i64 x.2]
theorem evRow_snoc (X : List (Nat × Int)) (x : Nat × Int) : evRow (X ++ [x]) = evRow X ++ [.int .u8 x.1, .int .i64 x.2] := by simp [evRow]
theorem infoEv : (Tryd.prog.info? 44).map (fun i => (i.zero, i.size, i.bytes)) = some (some (.agg #[.int .u8 0, .int .i64 0]), 2, 16) := by kernel_rfl
theorem box_ne {W : World} {r r' : Nat} {x y : Value} {t u : TypeId} (h : Boxed W r t x) (h' : Boxed W r' u y) (hn : t ≠ u) : r ≠ r' := fun e => by
  subst e
  have := (show W.heap[r]? = _ from h).symm.trans h'
  simp at this
  exact hn this.2
/-- What Parse answers. -/
def ParseOut (B : Nat) (l : List UInt8) (e : Ending) (W : World) : Prop :=
  (∃ X v, pars l = some X ∧ e = .returned (.tuple #[v, .int .i64 0]) ∧ W.ownsRow B 44 2 v X.length (evRow X)) ∨
  (pars l = none ∧ e = .returned (.tuple #[.slice none 0 0, .int .i64 2]))

set_option maxRecDepth 100000 in
set_option maxHeartbeats 4000000 in
theorem parse_nil (w : World) : Calls Tryd.prog 26 #[.string ⟨#[]⟩] w fun e w' => ParseOut w.heap.size [] e w' ∧ Below w.heap.size w w' := by
  go_enter Tryd.func26, Tryd.ntmps26
  go_wp2
  exact bodyPost_ret (v := .tuple #[.slice none 0 0, .int .i64 0]) (by simp [results, Tryd.results26, go_sem]) rfl ⟨Or.inl ⟨[], _, rfl, rfl, World.ownsRow_nil _ _ _ _⟩, ((Below.refl _ _).alloc (Nat.le_refl _) _).alloc (by simp) _⟩

theorem parts37 (s : ByteArray) (W : World) : Calls Tryd.prog 37 #[.string s] W fun e W' =>
    e = .returned (.func (.func 44) #[] #[.pointer (some ⟨W.heap.size, 0, none⟩)]) ∧ W' = W.alloc (.cells #[.string s] 9) := by
  go_enter Tryd.func37, Tryd.ntmps37
  go_wp2
  go_ret
  exact ⟨by simp, rfl⟩

/-- What holds between two rounds. -/
def JP (w : World) (RC : LoopState → Option Code → Loop) (st : LoopState) (pe : Option Code) (pre : List (Nat × Int)) (W : World) : Prop :=
  (Boxed W w.heap.size 22 (.slice none 0 0) ∧ Boxed W (w.heap.size + 1) 32 (.int .i64 0) ∧ (∃ v, Boxed W (w.heap.size + 2) 22 v ∧ W.ownsRow w.heap.size 44 2 v pre.length (evRow pre)) ∧ Below w.heap.size w W) ∧
  W.heap[w.heap.size + 5]? = some (.loop (RC st pe)) ∧ W.heap[w.heap.size + 4]? = some (.deferred (some []))
/-- What holds behind a no. -/
def JN (w : World) (RC : LoopState → Option Code → Loop) (_ : Unit) (W : World) : Prop :=
  (Boxed W w.heap.size 22 (.slice none 0 0) ∧ Boxed W (w.heap.size + 1) 32 (.int .i64 2) ∧ Below w.heap.size w W) ∧
  W.heap[w.heap.size + 5]? = some (.loop (RC .done (some .ret))) ∧ W.heap[w.heap.size + 4]? = some (.deferred (some []))

theorem row_set9 {W : World} {r b e k n : Nat} {x y v : Value} {xs : List Value} (hr : W.ownsRow b e k v n xs) (hb : Boxed W r 9 x) (he : e ≠ 9) : (W.setCell ⟨r, 0, none⟩ y).ownsRow b e k v n xs :=
  hr.kept (grownBy_setCell' W r y) (.inr (hb.not_row (Ne.symm he) hr).symm)
theorem JP_abide (w : World) (RC : LoopState → Option Code → Loop) (st : LoopState) (pe : Option Code) : Abide (w.heap.size + 6) (JP w RC st pe) where
  below s W W' h hb := by
    obtain ⟨⟨b0, b1, ⟨v, b2, hr⟩, hB⟩, hl, hd⟩ := h
    exact ⟨⟨(hb.block _ b0.lt).trans b0, (hb.block _ b1.lt).trans b1, ⟨v, (hb.block _ b2.lt).trans b2, own_below hr hb⟩, hB.trans (hb.mono hB.size)⟩, (hb.block _ (Array.getElem?_eq_some_iff.1 hl).1).trans hl, (hb.block _ (Array.getElem?_eq_some_iff.1 hd).1).trans hd⟩
  box s W r x y h hr hb := by
    obtain ⟨⟨b0, b1, ⟨v, b2, hrow⟩, hB⟩, hl, hd⟩ := h
    exact ⟨⟨b0.other (by omega) _, b1.other (by omega) _, ⟨v, b2.other (by omega) _, row_set9 hrow hb (by decide)⟩, hB.setCell (p := ⟨r, 0, none⟩) (by simp; omega) _⟩, (KeepsOthers.setCell _ _ _).same _ _ hl rfl, (KeepsOthers.setCell _ _ _).same _ _ hd rfl⟩
  put s W r o o' h hr ho hc := by
    obtain ⟨⟨b0, b1, ⟨v, b2, hrow⟩, hB⟩, hl, hd⟩ := h
    exact ⟨⟨(World.putObj_heap_other (by omega)).trans b0, (World.putObj_heap_other (by omega)).trans b1, ⟨v, (World.putObj_heap_other (by omega)).trans b2, ownsRow_putObj hrow _ ho hc⟩, hB.grown (grownBy_putObj' _ _ _) hB.size (fun k e => by cases e; omega)⟩, (World.putObj_heap_other (by omega)).trans hl, (World.putObj_heap_other (by omega)).trans hd⟩
theorem JN_abide (w : World) (RC : LoopState → Option Code → Loop) : Abide (w.heap.size + 6) (JN w RC) where
  below s W W' h hb := by
    obtain ⟨⟨b0, b1, hB⟩, hl, hd⟩ := h
    exact ⟨⟨(hb.block _ b0.lt).trans b0, (hb.block _ b1.lt).trans b1, hB.trans (hb.mono hB.size)⟩, (hb.block _ (Array.getElem?_eq_some_iff.1 hl).1).trans hl, (hb.block _ (Array.getElem?_eq_some_iff.1 hd).1).trans hd⟩
  box s W r x y h hr hb := by
    obtain ⟨⟨b0, b1, hB⟩, hl, hd⟩ := h
    exact ⟨⟨b0.other (by omega) _, b1.other (by omega) _, hB.setCell (p := ⟨r, 0, none⟩) (by simp; omega) _⟩, (KeepsOthers.setCell _ _ _).same _ _ hl rfl, (KeepsOthers.setCell _ _ _).same _ _ hd rfl⟩
  put s W r o o' h hr ho hc := by
    obtain ⟨⟨b0, b1, hB⟩, hl, hd⟩ := h
    exact ⟨⟨(World.putObj_heap_other (by omega)).trans b0, (World.putObj_heap_other (by omega)).trans b1, hB.grown (grownBy_putObj' _ _ _) hB.size (fun k e => by cases e; omega)⟩, (World.putObj_heap_other (by omega)).trans hl, (World.putObj_heap_other (by omega)).trans hd⟩

theorem no_out {w W V : World} {RC : LoopState → Option Code → Loop} {a : Act} (hB : Below w.heap.size w V) (e0 : Boxed V w.heap.size 22 (.slice none 0 0)) (e1 : Boxed V (w.heap.size + 1) 32 (.int .i64 0))
    (el : V.heap[w.heap.size + 5]? = some (.loop (RC .busy none))) (ed : V.heap[w.heap.size + 4]? = some (.deferred (some []))) (hk : KeepsFrom (w.heap.size + 6) W V) :
    RoundOut (w.heap.size + 5) RC (fun e W' => e = .returned (.bool false) ∧ JN w RC () W' ∧ KeepsFrom (w.heap.size + 6) W W') .ret a ((V.setCell ⟨w.heap.size, 0, none⟩ (.slice none 0 0)).setCell ⟨w.heap.size + 1, 0, none⟩ (.int .i64 2)) := by
  have k2 : KeepsOthers V ((V.setCell ⟨w.heap.size, 0, none⟩ (.slice none 0 0)).setCell ⟨w.heap.size + 1, 0, none⟩ (.int .i64 2)) := (KeepsOthers.setCell _ _ _).trans (KeepsOthers.setCell _ _ _)
  have el2 := k2.same _ _ el rfl
  have ed2 := k2.same _ _ ed rfl
  have g0 : Boxed ((V.setCell ⟨w.heap.size, 0, none⟩ (.slice none 0 0)).setCell ⟨w.heap.size + 1, 0, none⟩ (.int .i64 2)) w.heap.size 22 (.slice none 0 0) := (e0.set _).other (by omega) _
  have g1 : Boxed ((V.setCell ⟨w.heap.size, 0, none⟩ (.slice none 0 0)).setCell ⟨w.heap.size + 1, 0, none⟩ (.int .i64 2)) (w.heap.size + 1) 32 (.int .i64 2) := (e1.other (by omega) _).set _
  have gB : Below w.heap.size w ((V.setCell ⟨w.heap.size, 0, none⟩ (.slice none 0 0)).setCell ⟨w.heap.size + 1, 0, none⟩ (.int .i64 2)) := (hB.setCell (p := ⟨w.heap.size, 0, none⟩) (Nat.le_refl _) _).setCell (p := ⟨w.heap.size + 1, 0, none⟩) (by simp) _
  refine ⟨el2, some .ret, rfl, rfl, ⟨⟨(World.putObj_heap_other (by omega)).trans g0, (World.putObj_heap_other (by omega)).trans g1, gB.grown (grownBy_putObj' _ _ _) gB.size (fun k e => by cases e; omega)⟩, World.putObj_heap_same (Array.getElem?_eq_some_iff.1 el2).1, (World.putObj_heap_other (by omega)).trans ed2⟩, ?_⟩
  exact hk.trans ((k2.from _).trans ⟨by simp, fun q o hq ho hc => (World.putObj_heap_other (by omega)).trans ho⟩)

theorem yes_out {w W V w1 : World} {RC : LoopState → Option Code → Loop} {a : Act} {v v' : Value} {pre : List (Nat × Int)} {k : Nat} {x : Int} {tmp : Obj} (hB : Below w.heap.size w V) (e0 : Boxed V w.heap.size 22 (.slice none 0 0)) (e1 : Boxed V (w.heap.size + 1) 32 (.int .i64 0)) (e2 : Boxed V (w.heap.size + 2) 22 v)
    (hrow : V.ownsRow w.heap.size 44 2 v pre.length (evRow pre)) (el : V.heap[w.heap.size + 5]? = some (.loop (RC .busy none))) (ed : V.heap[w.heap.size + 4]? = some (.deferred (some []))) (hk : KeepsFrom (w.heap.size + 6) W V) (hkb : Kbox W V)
    (hgrow : (V.alloc tmp).grownBy w1 v.ownBlock) (hown : w1.ownsRow w.heap.size 44 2 v' (pre.length + 1) (evRow pre ++ [.int .u8 k, .int .i64 x])) :
    RoundOut (w.heap.size + 5) RC (fun e W' => e = .returned (.bool true) ∧ JP w RC .ready none (pre ++ [(k, x)]) W' ∧ Kbox W W' ∧ KeepsFrom (w.heap.size + 6) W W') .normal a (w1.setCell ⟨w.heap.size + 1 + 1, 0, none⟩ v') := by
  obtain ⟨hv1, hv2, hr2, hk2, hb2⟩ := e2.appended (by decide) hrow hB.size (by omega) hown hgrow
  have el2 := hk2.same _ _ el rfl
  have ed2 := hk2.same _ _ ed rfl
  have g0 : Boxed (w1.setCell ⟨w.heap.size + 2, 0, none⟩ v') w.heap.size 22 (.slice none 0 0) := ((e0.alloc tmp).kept hgrow (e0.not_row (by decide) hrow)).other (by omega) _
  have g1 : Boxed (w1.setCell ⟨w.heap.size + 2, 0, none⟩ v') (w.heap.size + 1) 32 (.int .i64 0) := ((e1.alloc tmp).kept hgrow (e1.not_row (by decide) hrow)).other (by omega) _
  have gB : Below w.heap.size w (w1.setCell ⟨w.heap.size + 2, 0, none⟩ v') := hB.trans hb2
  have gK : Kbox V (w1.setCell ⟨w.heap.size + 2, 0, none⟩ v') := fun r y t ht hb => by
    have hne : r ≠ w.heap.size + 2 := box_ne hb e2 (by rintro rfl; rcases ht with h | h | h <;> cases h)
    exact ((hb.alloc tmp).kept hgrow (hb.not_row (by rintro rfl; rcases ht with h | h | h <;> cases h) hrow)).other hne _
  refine ⟨el2, none, rfl, rfl, ⟨⟨(World.putObj_heap_other (by omega)).trans g0, (World.putObj_heap_other (by omega)).trans g1, ⟨v', (World.putObj_heap_other (by omega)).trans hv2, ?_⟩, gB.grown (grownBy_putObj' _ _ _) gB.size (fun k e => by cases e; omega)⟩, World.putObj_heap_same (Array.getElem?_eq_some_iff.1 el2).1, (World.putObj_heap_other (by omega)).trans ed2⟩, ?_, ?_⟩
  · rw [List.length_append, evRow_snoc]; exact ownsRow_putObj hr2 _ el2 rfl
  · exact (hkb.trans gK).trans (Kbox.put el2)
  · exact hk.trans ((hk2.from _).trans ⟨by simp, fun q o hq ho hc => (World.putObj_heap_other (by omega)).trans ho⟩)

set_option maxRecDepth 100000 in
set_option maxHeartbeats 4000000 in
theorem parse_some (c : UInt8) (r : List UInt8) (w : World) (hs : (c :: r).length ≤ 100000) (henv : EnvP w) : Calls Tryd.prog 26 #[.string ⟨(c :: r).toArray⟩] w fun e w' => ParseOut w.heap.size (c :: r) e w' ∧ Below w.heap.size w w' := by
  obtain ⟨i0, hi0, hz0, hz1, hz2⟩ := info_parts infoEv
  refine (callsIn_wide (n := 5)).1 ?_
  refine callsIn_of_wp_marks Tryd.func26 rfl trivial ?_ rfl
  simp only [Tryd.ntmps26, List.size_toArray, List.length_cons, List.length_nil, Nat.reduceAdd, Nat.reduceSub, Array.replicate_succ, Array.replicate_zero, List.push_toArray, List.append_toArray, List.nil_append, List.cons_append]
  gi_wp2
  refine ⟨trivial, (callsIn_wide.2 (parts37 ⟨(c :: r).toArray⟩ _)).mono ?_⟩
  rintro e w' ⟨rfl, rfl⟩
  gi_wp2
  obtain ⟨W1, hW1⟩ : ∃ W1, W1 = (((w.alloc (.cells #[.slice none 0 0] 22)).alloc (.cells #[.int .i64 0] 32)).alloc (.cells #[.slice none 0 0] 22)).alloc (.cells #[.string ⟨(c :: r).toArray⟩] 9) := ⟨_, rfl⟩
  rw [← hW1]
  have hsz : W1.heap.size = w.heap.size + 4 := by rw [hW1]; simp
  have hb1 : Below w.heap.size w W1 := by
    rw [hW1]; exact ((((Below.refl _ _).alloc (Nat.le_refl _) _).alloc (by simp) _).alloc (by simp; omega) _).alloc (by simp; omega) _
  have b0 : Boxed W1 w.heap.size 22 (.slice none 0 0) := by rw [hW1]; exact (((Boxed.new _ _ _).alloc _).alloc _).alloc _
  have b1 : Boxed W1 (w.heap.size + 1) 32 (.int .i64 0) := by rw [hW1]; have := Boxed.new (w.alloc (.cells #[.slice none 0 0] 22)) 32 (.int .i64 0); rw [World.size_alloc] at this; exact (this.alloc _).alloc _
  have b2 : Boxed W1 (w.heap.size + 2) 22 (.slice none 0 0) := by rw [hW1]; have := Boxed.new ((w.alloc (.cells #[.slice none 0 0] 22)).alloc (.cells #[.int .i64 0] 32)) 22 (.slice none 0 0); rw [World.size_alloc, World.size_alloc] at this; exact this.alloc _
  have b3 : Boxed W1 (w.heap.size + 3) 9 (.string ⟨(c :: r).toArray⟩) := by rw [hW1]; have := Boxed.new (((w.alloc (.cells #[.slice none 0 0] 22)).alloc (.cells #[.int .i64 0] 32)).alloc (.cells #[.slice none 0 0] 22)) 9 (.string ⟨(c :: r).toArray⟩); rw [World.size_alloc, World.size_alloc, World.size_alloc] at this; exact this
  clear hW1
  refine range_rec rfl (by omega) (gf := 44) (lb := #[.pointer (some ⟨w.heap.size + 3, 0, none⟩)]) rfl trivial (enters_of Tryd.func44 (by kernel_rfl) rfl) ?_
  intro fn RC hfn hRC
  rw [hsz] at hRC ⊢
  have HRC := Lib.hid hRC
  clear hRC
  obtain ⟨W2, hW2⟩ : ∃ W2, W2 = (W1.alloc (.deferred (some []))).alloc (.loop (RC .ready none)) := ⟨_, rfl⟩
  rw [← hW2]
  have hsz2 : W2.heap.size = w.heap.size + 6 := by rw [hW2]; simp [hsz]
  have hb2 : Below W1.heap.size W1 W2 := by rw [hW2]; exact ((Below.refl _ _).alloc (Nat.le_refl _) _).alloc (by simp) _
  have hl2 : W2.heap[w.heap.size + 5]? = some (.loop (RC .ready none)) := by
    rw [hW2]; have := World.alloc_heap_new (W1.alloc (.deferred (some []))) (.loop (RC .ready none)); rw [World.size_alloc, hsz] at this; exact this
  have hd2 : W2.heap[w.heap.size + 4]? = some (.deferred (some [])) := by
    rw [hW2]; refine (Below.heap_alloc _ _ _ (by simp; omega)).trans ?_; have := World.alloc_heap_new W1 (.deferred (some [])); rw [hsz] at this; exact this
  clear hW2
  refine (parts_in 4 (w.heap.size + 5) (w.heap.size + 3) (w.heap.size + 6) (by omega) (JP w RC .ready none) (JN w RC) (JP_abide _ _ _ _) (JN_abide _ _)
    ?hE ?hYt ?hYf (c :: r) W2 hsz2.symm ((hb2.block _ b3.lt).trans b3) hs ?h0).mono ?done
  case h0 => exact ⟨⟨(hb2.block _ b0.lt).trans b0, (hb2.block _ b1.lt).trans b1, ⟨_, (hb2.block _ b2.lt).trans b2, World.ownsRow_nil _ _ _ _⟩, hb1.trans (hb2.mono hb1.size)⟩, hl2, hd2⟩
  case hE =>
    rintro s W ⟨⟨_, _, _, hB⟩, _, _⟩
    exact henv.below hB
  case hYf =>
    rintro m pre k x W ⟨⟨g0, g1, ⟨v, g2, hrow⟩, hB⟩, hl, hd⟩
    have hal := Below.heap_alloc W (.cells #[.int .u8 k, .int .i64 x] 44)
    have hl' := (hal _ (Array.getElem?_eq_some_iff.1 hl).1).trans hl
    have hd' := (hal _ (Array.getElem?_eq_some_iff.1 hd).1).trans hd
    have hlt := (Array.getElem?_eq_some_iff.1 hl').1
    obtain ⟨V, hV⟩ : ∃ V, V = (W.alloc (.cells #[.int .u8 k, .int .i64 x] 44)).putObj (w.heap.size + 5) (.loop (RC .busy none)) := ⟨_, rfl⟩
    have e0 : Boxed V w.heap.size 22 (.slice none 0 0) := by rw [hV]; exact (World.putObj_heap_other (by omega)).trans (g0.alloc _)
    have e1 : Boxed V (w.heap.size + 1) 32 (.int .i64 0) := by rw [hV]; exact (World.putObj_heap_other (by omega)).trans (g1.alloc _)
    have eB : Below w.heap.size w V := by rw [hV]; exact (hB.alloc hB.size _).grown (grownBy_putObj' _ _ _) (by simp; have := hB.size; omega) (fun k e => by cases e; omega)
    have el : V.heap[w.heap.size + 5]? = some (.loop (RC .busy none)) := by rw [hV]; exact World.putObj_heap_same hlt
    have ed : V.heap[w.heap.size + 4]? = some (.deferred (some [])) := by rw [hV]; exact (World.putObj_heap_other (by omega)).trans hd'
    have eK : KeepsFrom (w.heap.size + 6) W V := by
      rw [hV]; exact ⟨by simp, fun q o hq ho hc => (World.putObj_heap_other (by omega)).trans ((hal _ (Array.getElem?_eq_some_iff.1 ho).1).trans ho)⟩
    have HL := Lib.hid hl; have HL' := Lib.hid hl'; have HV := Lib.hid hV; have HE1 := Lib.hid e1; have HE0 := Lib.hid e0; have HEL := Lib.hid el; have HED := Lib.hid ed
    have c0 := e0.cell; have f0 := e0.frozen; have c1 := e1.cell; have f1 := e1.frozen
    clear hal hl hl' hd hd' hV e0 e1 el ed g0 g1 g2 hrow hlt
    refine yield_rec HRC.out hfn HL.out rfl ?_
    gi_wp2
    refine ⟨HL'.out, ?_⟩
    rw [← HV.out]
    gi_wp2
    exact no_out eB HE0.out HE1.out HEL.out HED.out eK
  case hYt =>
    rintro m pre k x W ⟨⟨g0, g1, ⟨v, g2, hrow⟩, hB⟩, hl, hd⟩ hlen
    have hal := Below.heap_alloc W (.cells #[.int .u8 k, .int .i64 x] 44)
    have hl' := (hal _ (Array.getElem?_eq_some_iff.1 hl).1).trans hl
    have hd' := (hal _ (Array.getElem?_eq_some_iff.1 hd).1).trans hd
    have hlt := (Array.getElem?_eq_some_iff.1 hl').1
    have hlx := (Array.getElem?_eq_some_iff.1 hl).1
    obtain ⟨V, hV⟩ : ∃ V, V = (W.alloc (.cells #[.int .u8 k, .int .i64 x] 44)).putObj (w.heap.size + 5) (.loop (RC .busy none)) := ⟨_, rfl⟩
    have e0 : Boxed V w.heap.size 22 (.slice none 0 0) := by rw [hV]; exact (World.putObj_heap_other (by omega)).trans (g0.alloc _)
    have e1 : Boxed V (w.heap.size + 1) 32 (.int .i64 0) := by rw [hV]; exact (World.putObj_heap_other (by omega)).trans (g1.alloc _)
    have e2 : Boxed V (w.heap.size + 2) 22 v := by rw [hV]; exact (World.putObj_heap_other (by omega)).trans (g2.alloc _)
    have ex : V.heap[W.heap.size]? = some (.cells #[.int .u8 k, .int .i64 x] 44 (0, 0)) := by rw [hV]; exact (World.putObj_heap_other (by omega)).trans (World.alloc_heap_new W _)
    have erow : V.ownsRow w.heap.size 44 2 v pre.length (evRow pre) := by rw [hV]; exact ownsRow_putObj (hrow.alloc _) _ hl' rfl
    have eB : Below w.heap.size w V := by rw [hV]; exact (hB.alloc hB.size _).grown (grownBy_putObj' _ _ _) (by simp; have := hB.size; omega) (fun k e => by cases e; omega)
    have el : V.heap[w.heap.size + 5]? = some (.loop (RC .busy none)) := by rw [hV]; exact World.putObj_heap_same hlt
    have ed : V.heap[w.heap.size + 4]? = some (.deferred (some [])) := by rw [hV]; exact (World.putObj_heap_other (by omega)).trans hd'
    have eK : KeepsFrom (w.heap.size + 6) W V := by
      rw [hV]; exact ⟨by simp, fun q o hq ho hc => (World.putObj_heap_other (by omega)).trans ((hal _ (Array.getElem?_eq_some_iff.1 ho).1).trans ho)⟩
    have eKb : Kbox W V := by rw [hV]; exact (Kbox.below ((Below.refl _ _).alloc (Nat.le_refl _) _)).trans (Kbox.put hl')
    have x0 : V.cell? ⟨W.heap.size, 0, none⟩ = some (.int .u8 k) := by simp [World.cell?, ex]
    have x1 : V.cell? ⟨W.heap.size, 1, none⟩ = some (.int .i64 x) := by simp [World.cell?, ex]
    have HL := Lib.hid hl; have HL' := Lib.hid hl'; have HV := Lib.hid hV; have HE1 := Lib.hid e1; have HE0 := Lib.hid e0; have HE2 := Lib.hid e2; have HEL := Lib.hid el; have HED := Lib.hid ed; have HROW := Lib.hid erow
    have c2 := e2.cell
    clear hal hl hl' hd hd' hV e0 e1 e2 el ed g0 g1 g2 hrow hlt hlx erow ex
    refine yield_rec HRC.out hfn HL.out rfl ?_
    gi_wp2
    refine ⟨HL'.out, ?_⟩
    rw [← HV.out]
    have hbz := eB.size
    gi_wp2_with (gi_at_builtin; refine wpListIn_append_own _ rfl _ _ 22 rfl w.heap.size 44 i0 _ 2 16 Tryd.underlying22 hi0 hz0 hz1 hz2 rfl (by decide) _ _ _ rfl (HROW.out.alloc _) ⟨V.heap.size, 0, none⟩ 1 1 [.int .u8 k, .int .i64 x] rfl rfl (World.news_of_block (cs := #[.int .u8 k, .int .i64 x]) (t := 44) (fr := (0, 0)) (heap_alloc_new V _)) (by simp [Value.oneCell']) (by unfold maxLen; omega) (by omega) (by simp; omega) ?_; intro v' w1 hown' hgrow _; obtain ⟨g', cap', rfl⟩ := ownsRow_succ hown'; obtain ⟨hv1, hv2, hr2, hk2, hb2⟩ := HE2.out.appended (by decide) HROW.out eB.size (by omega) hown' hgrow; have hc1 := hv1.cell; have hf1 := hv1.frozen; have HG := Lib.hid hgrow; have HO := Lib.hid hown'; clear hv1 hv2 hr2 hk2 hb2 hgrow hown')
    exact yes_out eB HE0.out HE1.out HE2.out HROW.out HEL.out HED.out eK eKb HG.out HO.out
  case done =>
    rintro e W' ⟨hv, ⟨X, hx, hj⟩ | ⟨hx, hj⟩⟩
    · obtain ⟨⟨g0, g1, ⟨v, g2, hrow⟩, hB⟩, hl, hd⟩ := hj
      refine ⟨hv, Or.inl ⟨hl, ?_⟩⟩
      obtain ⟨V, hV⟩ : ∃ V, V = W'.putObj (w.heap.size + 5) (.loop (RC .exhausted none)) := ⟨_, rfl⟩
      have e0 : Boxed V w.heap.size 22 (.slice none 0 0) := by rw [hV]; exact (World.putObj_heap_other (by omega)).trans g0
      have e1 : Boxed V (w.heap.size + 1) 32 (.int .i64 0) := by rw [hV]; exact (World.putObj_heap_other (by omega)).trans g1
      have e2 : Boxed V (w.heap.size + 2) 22 v := by rw [hV]; exact (World.putObj_heap_other (by omega)).trans g2
      have erow : V.ownsRow w.heap.size 44 2 v X.length (evRow X) := by rw [hV]; exact ownsRow_putObj hrow _ hl rfl
      have eB : Below w.heap.size w V := by rw [hV]; exact hB.grown (grownBy_putObj' _ _ _) hB.size (fun k e => by cases e; omega)
      have ed : V.heap[w.heap.size + 4]? = some (.deferred (some [])) := by rw [hV]; exact (World.putObj_heap_other (by omega)).trans hd
      rw [← hV]
      have c0 := e0.cell; have f0 := e0.frozen; have c1 := e1.cell; have f1 := e1.frozen; have c2 := e2.cell
      have HE0 := Lib.hid e0; have HE1 := Lib.hid e1; have HE2 := Lib.hid e2; have HROW := Lib.hid erow; have HED := Lib.hid ed; have HXS := Lib.hid hx; have HBW := Lib.hid eB
      obtain ⟨av, nv, cv, rfl⟩ : ∃ a n c, v = .slice a n c := by
        rcases erow.2 with ⟨h, _⟩ | ⟨g, cap, cur, h, _⟩
        · exact ⟨_, _, _, h⟩
        · exact ⟨_, _, _, h⟩
      have s0 := HE0.out.set (.slice av nv cv)
      have s1 := (HE1.out.other (show w.heap.size + 1 ≠ w.heap.size by omega) (.slice av nv cv)).set (.int .i64 0)
      have s0' := s0.other (show w.heap.size ≠ w.heap.size + 1 by omega) (.int .i64 0)
      have k2 : KeepsOthers V ((V.setCell ⟨w.heap.size, 0, none⟩ (.slice av nv cv)).setCell ⟨w.heap.size + 1, 0, none⟩ (.int .i64 0)) := (KeepsOthers.setCell _ _ _).trans (KeepsOthers.setCell _ _ _)
      have hr2 := (erow.kept (grownBy_setCell' V w.heap.size (.slice av nv cv)) (.inr (HE0.out.not_row (by decide) erow).symm))
      have hr3 := hr2.kept (grownBy_setCell' _ (w.heap.size + 1) (.int .i64 0)) (.inr ((HE1.out.other (show w.heap.size + 1 ≠ w.heap.size by omega) (.slice av nv cv)).not_row (by decide) hr2).symm)
      have gB : Below w.heap.size w ((V.setCell ⟨w.heap.size, 0, none⟩ (.slice av nv cv)).setCell ⟨w.heap.size + 1, 0, none⟩ (.int .i64 0)) := (eB.setCell (p := ⟨w.heap.size, 0, none⟩) (Nat.le_refl _) _).setCell (p := ⟨w.heap.size + 1, 0, none⟩) (by simp) _
      have ed2 := k2.same _ _ ed rfl
      have HS0 := Lib.hid s0'; have HS1 := Lib.hid s1; have HR3 := Lib.hid hr3; have HGB := Lib.hid gB; have HED2 := Lib.hid ed2
      clear hV e0 e1 e2 erow ed eB g0 g1 g2 hrow hB hl hd hx s0 s1 s0' k2 hr2 hr3 gB ed2
      gi_wp2
      refine ⟨by simp, .inl ⟨_, _, rfl, run_takeDeferred HED2.out, ?_⟩⟩
      have d0 : Boxed _ w.heap.size 22 (.slice av nv cv) := (World.putObj_heap_other (o := .deferred none) (show w.heap.size ≠ w.heap.size + 4 by omega)).trans HS0.out
      have d1 : Boxed _ (w.heap.size + 1) 32 (.int .i64 0) := (World.putObj_heap_other (o := .deferred none) (show w.heap.size + 1 ≠ w.heap.size + 4 by omega)).trans HS1.out
      have q0 := d0.cell
      have q1 := d1.cell
      refine ⟨.tuple #[.slice av nv cv, .int .i64 0], by simp [results, Tryd.results26, go_sem, q0, q1], ⟨Or.inl ⟨X, _, ?_, rfl, ownsRow_putObj HR3.out _ HED2.out rfl⟩, HGB.out.grown (grownBy_putObj' _ _ _) HGB.out.size (fun k e => by cases e; omega)⟩⟩
      unfold pars; rw [if_neg (List.cons_ne_nil _ _)]; exact HXS.out
    · obtain ⟨⟨g0, g1, hB⟩, hl, hd⟩ := hj
      refine ⟨hv, Or.inr ⟨.ret, hl, ?_⟩⟩
      obtain ⟨V, hV⟩ : ∃ V, V = W'.putObj (w.heap.size + 5) (.loop (RC .exhausted (some .ret))) := ⟨_, rfl⟩
      have e0 : Boxed V w.heap.size 22 (.slice none 0 0) := by rw [hV]; exact (World.putObj_heap_other (by omega)).trans g0
      have e1 : Boxed V (w.heap.size + 1) 32 (.int .i64 2) := by rw [hV]; exact (World.putObj_heap_other (by omega)).trans g1
      have eB : Below w.heap.size w V := by rw [hV]; exact hB.grown (grownBy_putObj' _ _ _) hB.size (fun k e => by cases e; omega)
      have ed : V.heap[w.heap.size + 4]? = some (.deferred (some [])) := by rw [hV]; exact (World.putObj_heap_other (by omega)).trans hd
      rw [← hV]
      have HE0 := Lib.hid e0; have HE1 := Lib.hid e1; have HED := Lib.hid ed; have HXS := Lib.hid hx; have HBW := Lib.hid eB
      clear hV e0 e1 ed eB g0 g1 hB hl hd hx
      gi_wp2
      refine ⟨by simp, .inl ⟨_, _, rfl, run_takeDeferred HED.out, ?_⟩⟩
      have d0 : Boxed _ w.heap.size 22 (.slice none 0 0) := (World.putObj_heap_other (o := .deferred none) (show w.heap.size ≠ w.heap.size + 4 by omega)).trans HE0.out
      have d1 : Boxed _ (w.heap.size + 1) 32 (.int .i64 2) := (World.putObj_heap_other (o := .deferred none) (show w.heap.size + 1 ≠ w.heap.size + 4 by omega)).trans HE1.out
      have q0 := d0.cell
      have q1 := d1.cell
      refine ⟨.tuple #[.slice none 0 0, .int .i64 2], by simp [results, Tryd.results26, go_sem, q0, q1], ⟨Or.inr ⟨?_, rfl⟩, HBW.out.grown (grownBy_putObj' _ _ _) HBW.out.size (fun k e => by cases e; omega)⟩⟩
      unfold pars; rw [if_neg (List.cons_ne_nil _ _)]; exact HXS.out

theorem parse_any (s : ByteArray) (w : World) (hs : s.size ≤ 100000) (henv : EnvP w) : Calls Tryd.prog 26 #[.string s] w fun e w' => ParseOut w.heap.size s.data.toList e w' ∧ Below w.heap.size w w' := by
  obtain ⟨l, rfl⟩ : ∃ l : List UInt8, s = ⟨l.toArray⟩ := ⟨s.data.toList, mk_list s⟩
  cases l with
  | nil => exact parse_nil w
  | cons c r => exact parse_some c r w (by have h := hs; rw [Lib.size_eq] at h; simpa using h) henv
end Go.Proofs.YtadcegfdojocmaaDoor
