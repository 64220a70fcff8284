/- The iterator of the package trace over a text's parts: its contract, for whatever loop body that says no at the first part that is no event. By an AI agent. -/
import Derived.Test.YtadcegfdojocmaaDoorRangeC
namespace Go.Proofs.YtadcegfdojocmaaDoor
open Go.RowKit
attribute [local go_sem] Oper.semAt_some

/-- What is asked of the outer loop's invariant. -/
structure Abide (B : Nat) {β : Type} (J : β → World → Prop) : Prop where
  below : ∀ s W W', J s W → Below W.heap.size W W' → J s W'
  box : ∀ s W r x y, J s W → B ≤ r → Boxed W r 9 x → J s (W.setCell ⟨r, 0, none⟩ y)
  put : ∀ s W r o o', J s W → B ≤ r → W.heap[r]? = some o → o.isCells = false → J s (W.putObj r o')

theorem parsL_snoc (L : List (List UInt8)) (p : List UInt8) : parsL (L ++ [p]) = (parsL L).bind fun xs => (oneP p).map fun x => xs ++ [x] := by
  induction L with
  | nil => simp [parsL]; cases oneP p <;> rfl
  | cons q r ih =>
    simp only [List.cons_append, parsL, ih]
    cases oneP q with
    | none => rfl
    | some x => cases parsL r with
      | none => rfl
      | some t => cases oneP p <;> rfl
theorem parsL_len {L : List (List UInt8)} : ∀ {X : List (Nat × Int)}, parsL L = some X → X.length = L.length := by
  induction L with
  | nil => intro X h; simp [parsL] at h; subst h; rfl
  | cons p r ih =>
    intro X h
    simp only [parsL] at h
    cases ho : oneP p with
    | none => rw [ho] at h; simp at h
    | some x =>
      rw [ho] at h
      cases hr : parsL r with
      | none => rw [hr] at h; simp at h
      | some t => rw [hr] at h; simp at h; subst h; simp [ih hr]
theorem parsL_pre (L R : List (List UInt8)) (h : parsL L = none) : parsL (L ++ R) = none := by
  induction L with
  | nil => simp [parsL] at h
  | cons q r ih =>
    simp only [List.cons_append, parsL] at h ⊢
    cases hq : oneP q with
    | none => rfl
    | some x =>
      rw [hq] at h
      cases hr : parsL r with
      | none => rw [ih hr]; rfl
      | some t => rw [hr] at h; simp at h

/-- What is said behind the iterator. -/
def PartsEnd (L : List (List UInt8)) (J : List (Nat × Int) → World → Prop) (Jx : Unit → World → Prop) (W : World) : Prop :=
  (∃ xs, parsL L = some xs ∧ J xs W) ∨ (parsL L = none ∧ Jx () W)

theorem Kbox.put {W : World} {l : Nat} {x : Loop} {o : Obj} (h : W.heap[l]? = some (.loop x)) : Kbox W (W.putObj l o) := fun r v t _ hb => by
  unfold Boxed at *
  refine (World.putObj_heap_other (fun e => ?_)).trans hb
  rw [e, h] at hb; cases hb

theorem inR {F : Fence} {n : Nat} {P : Program} {l : Nat} {fn : FuncId} {tmps : Array Value} {assign body : Code} {w : World} {R : Ending → World → Prop} (l' : Nat) (h : RoundIn F n P l fn tmps assign body w R) : RoundIn (F.inRound l') n P l fn tmps assign body w R := h

theorem cut2 (c : UInt8) (r : List UInt8) : (⟨(c :: r).toArray⟩ : ByteArray).extract 1 (r.length + 1) = ⟨r.toArray⟩ := by ext1; simp
theorem lidx_yes (c : UInt8) (hc : c = 82 ∨ c = 80 ∨ c = 69 ∨ c = 83) : ∃ k, k < 4 ∧ letterB (k + 1) = [c] ∧ Lib.idxOfS ltrs ⟨#[c]⟩ = (k : Int) := by
  rcases hc with rfl | rfl | rfl | rfl
  · exact ⟨0, by omega, rfl, by decide⟩
  · exact ⟨1, by omega, rfl, by decide⟩
  · exact ⟨2, by omega, rfl, by decide⟩
  · exact ⟨3, by omega, rfl, by decide⟩
theorem cut1 (c : UInt8) (r : List UInt8) : (⟨(c :: r).toArray⟩ : ByteArray).extract 0 1 = ⟨#[c]⟩ := by ext1; simp
theorem no_end {B : Nat} {RC : LoopState → Option Code → Loop} {Jx : Unit → World → Prop} {pre : List (List UInt8)} {xs : List (Nat × Int)} {p : List UInt8} {V : World} {W : World} {a : Act} {R : World → Prop} (hx : parsL pre = some xs) (ho : oneP p = none) (aX : Abide B Jx) (hX : Jx () W) (hk : KeepsFrom B V W)
    (hl : V.heap[B + 4 + 1]? = some (.loop (RC .busy none))) (hd : V.heap[B + 4]? = some (.deferred (some []))) :
    RoundOut (B + 4 + 1) RC (fun e W' => (e = .returned (.bool true) ∧ R W') ∨ (e = .returned (.bool false) ∧ parsL (pre ++ [p]) = none ∧ Jx () W' ∧ W'.heap[B + 4 + 1]? = some (.loop (RC .done (some .ret))) ∧ W'.heap[B + 4]? = some (.deferred (some [])))) .ret a W := by
  have h1 := hk.same _ _ (by omega) hl rfl
  refine ⟨h1, some .ret, rfl, Or.inr ⟨rfl, by rw [parsL_snoc, hx, ho]; rfl, aX.put _ _ _ _ _ hX (by omega) h1 rfl, World.putObj_heap_same (Array.getElem?_eq_some_iff.1 h1).1, (World.putObj_heap_other (by omega)).trans (hk.same _ _ (by omega) hd rfl)⟩⟩

theorem yes_end {B : Nat} {RC : LoopState → Option Code → Loop} {J : List (Nat × Int) → World → Prop} {pre : List (List UInt8)} {xs : List (Nat × Int)} {x : Nat × Int} {p : List UInt8} {y : Value} {U V W : World} {a : Act} {R : Ending → World → Prop} (hx : parsL pre = some xs) (ho : oneP p = some x) (aJ : Abide B J) (hJ : J (xs ++ [x]) W) (hkx : Kbox V W) (hk : KeepsFrom B V W)
    (hl : V.heap[B + 4 + 1]? = some (.loop (RC .busy none))) (hd : V.heap[B + 4]? = some (.deferred (some []))) (hy : Boxed V B 72 y) (hkb : Kbox U V) :
    RoundOut (B + 4 + 1) RC (fun e W' => (e = .returned (.bool true) ∧ ((∃ xs, parsL (pre ++ [p]) = some xs ∧ J xs W') ∧ Boxed W' B 72 y ∧ W'.heap[B + 4 + 1]? = some (.loop (RC .ready none)) ∧ W'.heap[B + 4]? = some (.deferred (some []))) ∧ Kbox U W') ∨ R e W') .normal a W := by
  have h1 := hk.same _ _ (by omega) hl rfl
  have hkp : Kbox W (W.putObj (B + 4 + 1) (.loop (RC .ready none))) := Kbox.put h1
  refine ⟨h1, none, rfl, Or.inl ⟨rfl, ⟨⟨_, by rw [parsL_snoc, hx, ho]; rfl, aJ.put _ _ _ _ _ hJ (by omega) h1 rfl⟩, hkp _ _ _ (Or.inr (Or.inr rfl)) (hkx _ _ _ (Or.inr (Or.inr rfl)) hy), World.putObj_heap_same (Array.getElem?_eq_some_iff.1 h1).1, (World.putObj_heap_other (by omega)).trans (hk.same _ _ (by omega) hd rfl)⟩, (hkb.trans hkx).trans hkp⟩⟩

theorem parse_range {l : List UInt8} {v : Int} (h : Lib.parseIntB 64 l = .ok v) : i64ok v := by
  unfold Lib.parseIntB at h
  split at h
  · cases h
  · rename_i c r
    simp only at h
    split at h
    · cases h
    · cases h
    · rename_i u _
      by_cases hc : c.toNat = 45
      · simp only [hc, not_true_eq_false, false_and, if_false, true_and, if_true] at h
        split at h
        · cases h
        · injection h with h; subst h; unfold i64ok; omega
      · simp only [hc, not_false_eq_true, true_and, false_and, if_false] at h
        split at h
        · cases h
        · injection h with h; subst h; unfold i64ok; omega

theorem oneP_no (c : UInt8) (r : List UInt8) (hc : ¬ (c = 82 ∨ c = 80 ∨ c = 69 ∨ c = 83)) : oneP (c :: r) = none := oneP_none fun k n ⟨h1, h4, _, h⟩ => by
  have : k = 1 ∨ k = 2 ∨ k = 3 ∨ k = 4 := by omega
  rcases this with rfl | rfl | rfl | rfl <;> (simp [letterB] at h; exact hc (by simp [h.1]))
theorem lidx_no (c : UInt8) (hc : ¬ (c = 82 ∨ c = 80 ∨ c = 69 ∨ c = 83)) : Lib.idxOfS ltrs ⟨#[c]⟩ = -1 := by
  have := Lib.idxOfS_miss ltrs 4 ⟨#[c]⟩ (fun j hj e => hc (by
    match j, hj with
    | 0, _ => simp [ltrs] at e; simp [e]
    | 1, _ => simp [ltrs] at e; simp [e]
    | 2, _ => simp [ltrs] at e; simp [e]
    | 3, _ => simp [ltrs] at e; simp [e]))
  simpa [ltrs] using this

set_option maxRecDepth 100000 in
set_option maxHeartbeats 4000000 in
theorem parts_in (n l Bs B : Nat) (hn : 3 ≤ n) (J : List (Nat × Int) → World → Prop) (Jx : Unit → World → Prop) (aJ : Abide B J) (aX : Abide B Jx) (hE : ∀ s W, J s W → EnvP W)
    (hYt : ∀ m pre (k : Nat) (x : Int) W, J pre W → pre.length ≤ 100000 → YieldAt Fence.wide m Tryd.prog l #[.agg #[.int .u8 k, .int .i64 x], .bool true] W fun e W' => e = .returned (.bool true) ∧ J (pre ++ [(k, x)]) W' ∧ Kbox W W' ∧ KeepsFrom B W W')
    (hYf : ∀ m pre (k x : Int) W, J pre W → YieldAt Fence.wide m Tryd.prog l #[.agg #[.int .u8 k, .int .i64 x], .bool false] W fun e W' => e = .returned (.bool false) ∧ Jx () W' ∧ KeepsFrom B W W')
    (s : List UInt8) (W0 : World) (hB : B = W0.heap.size) (h1 : Boxed W0 Bs 9 (.string ⟨s.toArray⟩)) (hs : s.length ≤ 100000) (h0 : J [] W0) :
    CallsIn Fence.wide n Tryd.prog 44 #[.func (.yield l) #[] #[], .pointer (some ⟨Bs, 0, none⟩)] W0 fun e W' =>
      (∃ v, e = .returned v) ∧ PartsEnd (splitB s) J Jx W' := by
  subst hB
  refine callsIn_of_wp_marks Tryd.func44 rfl trivial ?_ rfl
  simp only [Tryd.ntmps44, List.size_toArray, List.length_cons, List.length_nil, Nat.reduceAdd, Nat.reduceSub, Array.replicate_succ, Array.replicate_zero, List.push_toArray, List.append_toArray, List.nil_append, List.cons_append]
  have c1 := h1.cell
  have hlt := h1.lt
  gi_wp2
  refine ⟨trivial, fun _ => by omega, (callsIn_wide.2 (split45 ⟨s.toArray⟩ _)).mono ?_⟩
  rintro e w' ⟨rfl, rfl⟩
  gi_wp2
  obtain ⟨W1, hW1⟩ : ∃ W1, W1 = boxes3 (W0.alloc (.cells #[.func (.yield l) #[] #[]] 72)) ⟨s.toArray⟩ := ⟨_, rfl⟩
  rw [← hW1]
  have hsz : W1.heap.size = W0.heap.size + 4 := by rw [hW1]; simp [boxes3]
  have hb1 : Below W0.heap.size W0 W1 := by
    rw [hW1]; exact ((((Below.refl _ _).alloc (Nat.le_refl _) _).alloc (by simp) _).alloc (by simp; omega) _).alloc (by simp; omega) _
  have by0 : Boxed W1 W0.heap.size 72 (.func (.yield l) #[] #[]) := by rw [hW1]; exact (((Boxed.new _ _ _).alloc _).alloc _).alloc _
  have bs0 : Boxed W1 (W0.heap.size + 1) 9 (.string ⟨s.toArray⟩) := by rw [hW1]; have := Boxed.new (W0.alloc (.cells #[.func (.yield l) #[] #[]] 72)) 9 (.string ⟨s.toArray⟩); rw [World.size_alloc] at this; exact (this.alloc _).alloc _
  have bp0 : Boxed W1 (W0.heap.size + 2) 9 (.string ⟨#[32]⟩) := by rw [hW1]; have := Boxed.new ((W0.alloc (.cells #[.func (.yield l) #[] #[]] 72)).alloc (.cells #[.string ⟨s.toArray⟩] 9)) 9 (.string ⟨#[32]⟩); rw [World.size_alloc, World.size_alloc] at this; exact this.alloc _
  have bv0 : Boxed W1 (W0.heap.size + 3) 3 (.int .i64 0) := by rw [hW1]; have := Boxed.new (((W0.alloc (.cells #[.func (.yield l) #[] #[]] 72)).alloc (.cells #[.string ⟨s.toArray⟩] 9)).alloc (.cells #[.string ⟨#[32]⟩] 9)) 3 (.int .i64 0); rw [World.size_alloc, World.size_alloc, World.size_alloc] at this; exact this
  have hj1 : J [] W1 := aJ.below _ _ _ h0 hb1
  clear hW1 c1
  have eH : W0.heap.size + 1 = W0.heap.size + 1 := rfl
  refine range_rec rfl (by omega) (gf := 65) (lb := #[.pointer (some ⟨W0.heap.size + 2, 0, none⟩), .pointer (some ⟨W0.heap.size + 1, 0, none⟩), .pointer (some ⟨W0.heap.size + 3, 0, none⟩)]) rfl trivial (enters_of Tryd.func65 (by kernel_rfl) rfl) ?_
  intro fn RC hfn hRC
  rw [hsz] at hRC ⊢
  have HRC := Lib.hid hRC
  clear hRC
  obtain ⟨W2, hW2⟩ : ∃ W2, W2 = (W1.alloc (.deferred (some []))).alloc (.loop (RC .ready none)) := ⟨_, rfl⟩
  rw [← hW2]
  have hb2 : Below W1.heap.size W1 W2 := by rw [hW2]; exact ((Below.refl _ _).alloc (Nat.le_refl _) _).alloc (by simp) _
  have hl2 : W2.heap[W0.heap.size + 4 + 1]? = some (.loop (RC .ready none)) := by
    rw [hW2]; have := World.alloc_heap_new (W1.alloc (.deferred (some []))) (.loop (RC .ready none)); rw [World.size_alloc, hsz] at this; exact this
  have hd2 : W2.heap[W0.heap.size + 4]? = some (.deferred (some [])) := by
    rw [hW2]; refine (Below.heap_alloc _ _ _ (by simp; omega)).trans ?_; have := World.alloc_heap_new W1 (.deferred (some [])); rw [hsz] at this; exact this
  clear hW2
  refine (split_in (n - 1) (W0.heap.size + 4 + 1) (W0.heap.size + 1) (W0.heap.size + 2) (W0.heap.size + 3) (by omega) (by omega) (by omega)
    (fun pre W => (∃ xs, parsL pre = some xs ∧ J xs W) ∧ Boxed W W0.heap.size 72 (.func (.yield l) #[] #[]) ∧ W.heap[W0.heap.size + 4 + 1]? = some (.loop (RC .ready none)) ∧ W.heap[W0.heap.size + 4]? = some (.deferred (some [])))
    (fun pre W => parsL pre = none ∧ Jx () W ∧ W.heap[W0.heap.size + 4 + 1]? = some (.loop (RC .done (some .ret))) ∧ W.heap[W0.heap.size + 4]? = some (.deferred (some [])))
    ?hJ ?hY s W2 (Kbox.below hb2 _ _ _ (Or.inl rfl) bs0) (Kbox.below hb2 _ _ _ (Or.inl rfl) bp0) (Kbox.below hb2 _ _ _ (Or.inr (Or.inl rfl)) bv0) hs ⟨⟨[], rfl, aJ.below _ _ _ hj1 hb2⟩, Kbox.below hb2 _ _ _ (Or.inr (Or.inr rfl)) by0, hl2, hd2⟩).mono ?done
  case hJ =>
    rintro pre W x y ⟨⟨xs, hx, hj⟩, hy, hl, hd⟩ hb
    exact ⟨⟨xs, hx, aJ.box _ _ _ _ _ hj (by omega) hb⟩, hy.other (by omega) _, (KeepsOthers.setCell _ _ _).same _ _ hl rfl, (KeepsOthers.setCell _ _ _).same _ _ hd rfl⟩
  case hY =>
    rintro pre p W ⟨⟨xs, hx, hj⟩, hy, hl, hd⟩ hlp hlpre
    have hlt2 := (Array.getElem?_eq_some_iff.1 hl).1
    have hjb := aJ.put _ _ (W0.heap.size + 4 + 1) _ (.loop (RC .busy none)) hj (by omega) hl rfl
    have hlb : (W.putObj (W0.heap.size + 4 + 1) (.loop (RC .busy none))).heap[W0.heap.size + 4 + 1]? = some (.loop (RC .busy none)) := World.putObj_heap_same hlt2
    have hdb : (W.putObj (W0.heap.size + 4 + 1) (.loop (RC .busy none))).heap[W0.heap.size + 4]? = some (.deferred (some [])) := (World.putObj_heap_other (by omega)).trans hd
    have hyb : Boxed (W.putObj (W0.heap.size + 4 + 1) (.loop (RC .busy none))) W0.heap.size 72 (.func (.yield l) #[] #[]) := (World.putObj_heap_other (by omega)).trans hy
    have hkb : Kbox W (W.putObj (W0.heap.size + 4 + 1) (.loop (RC .busy none))) := Kbox.put hl
    have henv := hE _ _ hjb
    have cy := hyb.cell
    have hd2 : 1 ≤ n - 1 - 1 := by omega
    have hmx : Tryd.prog.follows .mixedOrders = true := by kernel_rfl
    have HJB := Lib.hid hjb; have HLB := Lib.hid hlb; have HDB := Lib.hid hdb; have HYB := Lib.hid hyb; have HENV := Lib.hid henv; have HKB := Lib.hid hkb; have HX := Lib.hid hx
    have HL := Lib.hid hl
    clear hjb hlb hdb hyb hkb henv hx hd hy hl hlt2
    refine yield_rec HRC.out hfn HL.out rfl ?_
    gi_wp2
    refine ⟨HL.out, ?_⟩
    cases p with
    | nil =>
      obtain ⟨fn', tm', as', bo', hy', hR'⟩ := hYf (n - 1 - 1 - 1) xs 0 0 _ HJB.out
      gi_wp2
      refine (inR _ hR').mono ?_
      rintro e W3 ⟨rfl, hx3, hk3⟩
      gi_wp2
      exact no_end HX.out oneP_nil aX hx3 hk3 HLB.out HDB.out
    | cons c r =>
      by_cases hc : c = 82 ∨ c = 80 ∨ c = 69 ∨ c = 83
      · obtain ⟨k, hk4, hlet, hidx⟩ := lidx_yes c hc
        have hlr : (⟨r.toArray⟩ : ByteArray).size ≤ 100000 := by rw [List.length_cons] at hlp; show r.toArray.size ≤ _; simp; omega
        have HI := Lib.hid hidx
        have HLT := Lib.hid hlet
        have hk0 : (0 : Int) ≤ (k : Int) := by omega
        have hk3 : (k : Int) < 4 := by omega
        clear hidx hlet
        by_cases hpart : ∃ x, i64ok x ∧ r = Lib.itoa x
        · obtain ⟨x, hx, hr⟩ := hpart
          have hone : oneP (c :: r) = some (k + 1, x) := oneP_some ⟨by omega, by omega, hx, by rw [HLT.out, hr]; rfl⟩
          have HO := Lib.hid hone; have HR := Lib.hid hr; have HX1 := Lib.hid hx
          have HC : Hid ((Lib.itoa x == ((⟨(c :: r).toArray⟩ : ByteArray).extract 1 (r.length + 1)).toList) = true) := Lib.hid (by rw [cut2, Lib.toList_data, hr]; simp)
          clear hone hr hx
          have hE1 : ∀ w', Below ((W.putObj (W0.heap.size + 4 + 1) (.loop (RC .busy none))).drew).heap.size (W.putObj (W0.heap.size + 4 + 1) (.loop (RC .busy none))).drew w' → Env w' := fun w' h => (HENV.out.env.below (Below.refl _ _).drew).below h
          have HE1 := Lib.hid hE1
          clear hE1
          gi_wp2
          gi_region_with_o ((refine ⟨trivial, ?_⟩; gi_at_call 46; refine (CallsIn.inRound _ (callsIn_wide.2 (lidx_v _ _ (HENV.out.env.below (Below.refl _ _).drew)))).mono ?_; rintro e w' ⟨v, rfl, hv, rfl⟩; obtain rfl : v = (k : Int) := by rw [hv.out, cut1]; exact HI.out))
          all_goals gi_wp2
          all_goals refine ⟨trivial, (CallsIn.inRound _ (callsIn_wide.2 (pint_yes _ x _ (by rw [cut2]; exact hlr) (by rw [cut2]; exact (HR.out ▸ parse_itoa x HX1.out))))).mono ?_⟩
          all_goals rintro e w' ⟨rfl, hb⟩
          all_goals gi_wp2
          all_goals gi_region_with_o ((refine ⟨trivial, ?_⟩; gi_at_call 34; refine (CallsIn.inRound _ (callsIn_wide.2 (fmt_wide x HX1.out _ (HE1.out _ hb).drew'))).mono ?_; rintro e w2 ⟨rfl, hb2⟩))
          all_goals rw [HC.out]
          all_goals have BL := below_next (below_next ((Below.refl _ _).drew) hb) (below_next ((Below.refl _ _).drew) hb2)
          all_goals obtain ⟨fn', tm', as', bo', hy', hR'⟩ := hYt (n - 1 - 1 - 1) xs (k + 1) x w2 (aJ.below _ _ _ HJB.out BL) (by rw [parsL_len HX.out]; exact hlpre)
          all_goals rw [Int.natCast_succ] at hy'
          all_goals have hyb2 : Boxed w2 W0.heap.size 72 (.func (.yield l) #[] #[]) := Kbox.below BL _ _ _ (Or.inr (Or.inr rfl)) HYB.out
          all_goals have cy2 := hyb2.cell
          all_goals have HY2 := Lib.hid hyb2
          all_goals clear cy hyb2
          all_goals gi_wp2
          all_goals refine (inR _ hR').mono ?_
          all_goals rintro e W3 ⟨rfl, hJ3, hk3, hf3⟩
          all_goals gi_wp2
          all_goals exact yes_end HX.out HO.out aJ hJ3 hk3 hf3 ((BL.block _ (Array.getElem?_eq_some_iff.1 HLB.out).1).trans HLB.out) ((BL.block _ (Array.getElem?_eq_some_iff.1 HDB.out).1).trans HDB.out) HY2.out (HKB.out.trans (Kbox.below BL))
        · have hone : oneP (c :: r) = none := oneP_none fun k' n' ⟨g1, g4, g, e⟩ => hpart ⟨n', g, by
            obtain ⟨d, hd, _⟩ := letter_one g1 g4
            rw [hd] at e; simp at e; exact e.2⟩
          have HO := Lib.hid hone; have HNP := Lib.hid hpart
          clear hone hpart
          have hE1 : ∀ w', Below ((W.putObj (W0.heap.size + 4 + 1) (.loop (RC .busy none))).drew).heap.size (W.putObj (W0.heap.size + 4 + 1) (.loop (RC .busy none))).drew w' → Env w' := fun w' h => (HENV.out.env.below (Below.refl _ _).drew).below h
          have HE1 := Lib.hid hE1
          clear hE1
          by_cases hok : ∃ v, Lib.parseIntB 64 r = .ok v
          · obtain ⟨v, hv⟩ := hok
            have hvr := parse_range hv
            have hcmp : (Lib.itoa v == ((⟨(c :: r).toArray⟩ : ByteArray).extract 1 (r.length + 1)).toList) = false := by
              rw [cut2, Lib.toList_data]; rw [beq_eq_false_iff_ne]; intro e; exact HNP.out ⟨v, hvr, by simpa using e.symm⟩
            have HC := Lib.hid hcmp; have HV := Lib.hid hv; have HVR := Lib.hid hvr
            clear hcmp hv hvr
            gi_wp2
            gi_region_with_o ((refine ⟨trivial, ?_⟩; gi_at_call 46; refine (CallsIn.inRound _ (callsIn_wide.2 (lidx_v _ _ (HENV.out.env.below (Below.refl _ _).drew)))).mono ?_; rintro e w' ⟨v, rfl, hv, rfl⟩; obtain rfl : v = (k : Int) := by rw [hv.out, cut1]; exact HI.out))
            all_goals gi_wp2
            all_goals refine ⟨trivial, (CallsIn.inRound _ (callsIn_wide.2 (pint_yes _ v _ (by rw [cut2]; exact hlr) (by rw [cut2]; exact HV.out)))).mono ?_⟩
            all_goals rintro e w' ⟨rfl, hb⟩
            all_goals gi_wp2
            all_goals gi_region_with_o ((refine ⟨trivial, ?_⟩; gi_at_call 34; refine (CallsIn.inRound _ (callsIn_wide.2 (fmt_wide v HVR.out _ (HE1.out _ hb).drew'))).mono ?_; rintro e w2 ⟨rfl, hb2⟩))
            all_goals rw [HC.out]
            all_goals have BL := below_next (below_next ((Below.refl _ _).drew) hb) (below_next ((Below.refl _ _).drew) hb2)
            all_goals obtain ⟨fn', tm', as', bo', hy', hR'⟩ := hYf (n - 1 - 1 - 1) xs (k + 1) v w2 (aJ.below _ _ _ HJB.out BL)
            all_goals have hyb2 : Boxed w2 W0.heap.size 72 (.func (.yield l) #[] #[]) := Kbox.below BL _ _ _ (Or.inr (Or.inr rfl)) HYB.out
            all_goals have cy2 := hyb2.cell
            all_goals clear cy hyb2
            all_goals gi_wp2
            all_goals refine (inR _ hR').mono ?_
            all_goals rintro e W3 ⟨rfl, hx3, hk3⟩
            all_goals gi_wp2
            all_goals exact no_end HX.out HO.out aX hx3 hk3 ((BL.block _ (Array.getElem?_eq_some_iff.1 HLB.out).1).trans HLB.out) ((BL.block _ (Array.getElem?_eq_some_iff.1 HDB.out).1).trans HDB.out)
          · have hno : ∀ v, Lib.parseIntB 64 r ≠ .ok v := fun v e => hok ⟨v, e⟩
            have HV := Lib.hid hno
            clear hno hok
            gi_wp2
            gi_region_with_o ((refine ⟨trivial, ?_⟩; gi_at_call 46; refine (CallsIn.inRound _ (callsIn_wide.2 (lidx_v _ _ (HENV.out.env.below (Below.refl _ _).drew)))).mono ?_; rintro e w' ⟨v, rfl, hv, rfl⟩; obtain rfl : v = (k : Int) := by rw [hv.out, cut1]; exact HI.out))
            all_goals gi_wp2
            all_goals refine ⟨trivial, (CallsIn.inRound _ (callsIn_wide.2 (pint_no _ _ (by rw [cut2]; exact hlr) (HENV.out.below (Below.refl _ _).drew) (by rw [cut2]; exact HV.out)))).mono ?_⟩
            all_goals rintro e w2 ⟨⟨v, N, rfl⟩, hb⟩
            all_goals gi_wp2
            all_goals gi_region_with_o ((refine ⟨trivial, ?_⟩))
            all_goals have BL := below_next (below_next ((Below.refl _ _).drew) hb) ((Below.refl _ _).drew)
            all_goals obtain ⟨fn', tm', as', bo', hy', hR'⟩ := hYf (n - 1 - 1 - 1) xs (k + 1) v w2.drew (aJ.below _ _ _ HJB.out BL)
            all_goals have hyb2 : Boxed w2.drew W0.heap.size 72 (.func (.yield l) #[] #[]) := Kbox.below BL _ _ _ (Or.inr (Or.inr rfl)) HYB.out
            all_goals have cy2 := hyb2.cell
            all_goals clear cy hyb2
            all_goals gi_wp2
            all_goals refine (inR _ hR').mono ?_
            all_goals rintro e W3 ⟨rfl, hx3, hk3⟩
            all_goals gi_wp2
            all_goals exact no_end HX.out HO.out aX hx3 hk3 ((BL.block _ (Array.getElem?_eq_some_iff.1 HLB.out).1).trans HLB.out) ((BL.block _ (Array.getElem?_eq_some_iff.1 HDB.out).1).trans HDB.out)
      · have hidx := lidx_no c hc
        have HI := Lib.hid hidx
        have hno := oneP_no c r hc
        have HNO := Lib.hid hno
        clear hno hidx
        gi_wp2
        have hjd := aJ.below _ _ _ HJB.out ((Below.refl _ _).drew)
        obtain ⟨fn', tm', as', bo', hy', hR'⟩ := hYf (n - 1 - 1 - 1) xs 0 0 _ hjd
        gi_region_with_o ((refine ⟨trivial, ?_⟩; gi_at_call 46; refine (CallsIn.inRound _ (callsIn_wide.2 (lidx_v _ _ (HENV.out.env.below (Below.refl _ _).drew)))).mono ?_; rintro e w' ⟨v, rfl, hv, rfl⟩; obtain rfl : v = -1 := by rw [hv.out, cut1]; exact HI.out))
        all_goals gi_wp2
        all_goals refine (inR _ hR').mono ?_
        all_goals rintro e W3 ⟨rfl, hx3, hk3⟩
        all_goals gi_wp2
        all_goals exact no_end HX.out HNO.out aX hx3 hk3 HLB.out HDB.out
  case done =>
    rintro e W' ⟨hv, ⟨⟨xs, hx, hj⟩, hy, hl, hd⟩ | ⟨pre, r, hs', hx, hj, hl, hd⟩⟩
    · refine ⟨hv, Or.inl ⟨hl, ?_⟩⟩
      have hj2 := aJ.put _ _ (W0.heap.size + 4 + 1) _ (.loop (RC .exhausted none)) hj (by omega) hl rfl
      have hd2 : (W'.putObj (W0.heap.size + 4 + 1) (.loop (RC .exhausted none))).heap[W0.heap.size + 4]? = some (.deferred (some [])) := (World.putObj_heap_other (by omega)).trans hd
      have hj3 := aJ.put _ _ (W0.heap.size + 4) _ (.deferred none) hj2 (by omega) hd2 rfl
      have HJ3 := Lib.hid hj3; have HD2 := Lib.hid hd2; have HXS := Lib.hid hx
      clear hj3 hd2 hx hj2 hd hl hy
      gi_wp2
      refine ⟨by simp, .inl ⟨_, _, rfl, run_takeDeferred HD2.out, ?_⟩⟩
      exact ⟨_, results_none rfl _ _ _, ⟨_, rfl⟩, Or.inl ⟨xs, HXS.out, HJ3.out⟩⟩
    · refine ⟨hv, Or.inr ⟨.ret, hl, ?_⟩⟩
      have hj2 := aX.put _ _ (W0.heap.size + 4 + 1) _ (.loop (RC .exhausted (some .ret))) hj (by omega) hl rfl
      have hd2 : (W'.putObj (W0.heap.size + 4 + 1) (.loop (RC .exhausted (some .ret)))).heap[W0.heap.size + 4]? = some (.deferred (some [])) := (World.putObj_heap_other (by omega)).trans hd
      have hj3 := aX.put _ _ (W0.heap.size + 4) _ (.deferred none) hj2 (by omega) hd2 rfl
      have hxx : parsL (splitB s) = none := by rw [hs']; exact parsL_pre _ _ hx
      have HJ3 := Lib.hid hj3; have HD2 := Lib.hid hd2; have HXS := Lib.hid hxx; have HS' := Lib.hid hs'
      clear hj3 hd2 hx hj2 hd hl hxx hs'
      gi_wp2
      refine ⟨by simp, .inl ⟨_, _, rfl, run_takeDeferred HD2.out, ?_⟩⟩
      exact ⟨_, results_none rfl _ _ _, ⟨_, rfl⟩, Or.inr ⟨HXS.out, HJ3.out⟩⟩
end Go.Proofs.YtadcegfdojocmaaDoor
