/- Joint text: PSize, PTextB, PBackT, PMax. By an AI agent. -/
import Derived.Test.YtkkeocnnecegbaaGreatDoorJB
import Derived.Test.YtkkeocnnecegbaaGreatDoorSpelled
import Derived.Lib.ItoaMem
/- Plain law: lex's tokens are as PShape asks; how many bytes they take; how many nodes a program has. By an AI agent. -/
namespace Go.Proofs.YtkkeocnnecegbaaGreatDoor
open Go.RowKit

theorem dec_one {v : Nat} (h : v < 10) : Lib.decDigits v = [UInt8.ofNat (48 + v)] := Lib.decDigits_one h
theorem dec_more {v : Nat} (h : ¬ v < 10) : Lib.decDigits v = Lib.decDigits (v / 10) ++ [UInt8.ofNat (48 + v % 10)] := by
  rw [Lib.decDigits, dif_neg h]
theorem dig_of {c : UInt8} (h1 : 48 ≤ c.toNat) (h2 : c.toNat ≤ 57) : UInt8.ofNat (48 + (c.toNat - 48)) = c := by
  apply UInt8.toNat.inj
  rw [UInt8.toNat_ofNat']
  omega
theorem parse_dec {M : Nat} : ∀ (l : List UInt8) (acc v : Nat), 0 < acc → Lib.parseUintM M acc l = .ok v → Lib.decDigits v = Lib.decDigits acc ++ l
  | [], acc, v, _, h => by
    simp only [Lib.parseUintM] at h
    injection h with h
    rw [h, List.append_nil]
  | c :: r, acc, v, h0, h => by
    simp only [Lib.parseUintM] at h
    split at h
    · rename_i hc
      split at h
      · cases h
      · split at h
        · cases h
        · rw [parse_dec r _ v (by omega) h, dec_more (v := acc * 10 + (c.toNat - 48)) (by omega), show (acc * 10 + (c.toNat - 48)) / 10 = acc by omega, show (acc * 10 + (c.toNat - 48)) % 10 = c.toNat - 48 by omega, dig_of hc.1 hc.2]
          simp
    · cases h
theorem numS_dec {l : List UInt8} {v : Int} (h : numS l = some v) (hne : l ≠ []) : l = Lib.itoa v ∧ 0 ≤ v ∧ v ≤ 2147483647 := by
  unfold numS at h
  split at h
  · rename_i u hu
    split at h
    · cases h
    · rename_i hz
      injection h with h
      subst h
      have hle := Lib.parseUintM_le _ l 0 u (Nat.zero_le _) hu
      refine ⟨?_, by omega, by omega⟩
      rw [Lib.itoa_nonneg]
      cases l with
      | nil => exact absurd rfl hne
      | cons c r =>
        by_cases hc : c = 48
        · subst hc
          have : (48 : UInt8) :: r = [48] := by
            apply Classical.byContradiction
            intro hh
            exact hz ⟨hh, rfl⟩
          injection this with _ this
          subst this
          simp only [Lib.parseUintM] at hu
          simp at hu
          subst hu
          rw [dec_one (by omega)]; rfl
        · simp only [Lib.parseUintM] at hu
          split at hu
          · rename_i hcc
            split at hu
            · cases hu
            · split at hu
              · cases hu
              · have hp : 0 < 0 * 10 + (c.toNat - 48) := by
                  have : c.toNat ≠ 48 := fun hh => hc (UInt8.toNat.inj hh)
                  omega
                rw [parse_dec r _ u hp hu, dec_one (v := 0 * 10 + (c.toNat - 48)) (by omega), Nat.zero_mul, Nat.zero_add, dig_of hcc.1 hcc.2]
                rfl
          · cases hu
  · cases h
theorem self_tg {t : Tok} (h : Self t) : TG t := by
  obtain ⟨c, r, h1, h2, h3⟩ := h
  unfold tokAt at h3
  simp only at h3
  split at h3
  · rename_i hl
    injection h3 with h3
    simp only [Prod.mk.injEq] at h3
    obtain ⟨h4, h5, h6⟩ := h3
    rw [h5, List.take_length] at h4
    split at h4
    · exact Or.inr (Or.inl ⟨h4.symm, h6.symm⟩)
    · rename_i hw
      refine Or.inl ⟨h4.symm, h6.symm, ?_⟩
      rw [h1]
      unfold nameOk
      simp [hl, hw, h5]
  · split at h3
    · split at h3
      · rename_i v hv
        injection h3 with h3
        simp only [Prod.mk.injEq] at h3
        obtain ⟨h4, h5, h6⟩ := h3
        rw [h5, List.take_length] at hv
        subst h6
        obtain ⟨g1, g2, g3⟩ := numS_dec hv (List.cons_ne_nil _ _)
        exact Or.inr (Or.inr (Or.inl ⟨h4.symm, by rw [h1]; exact g1, g2, g3⟩))
      · cases h3
    · split at h3
      · cases h3
      · injection h3 with h3
        simp only [Prod.mk.injEq] at h3
        obtain ⟨h4, h5, h6⟩ := h3
        exact Or.inr (Or.inr (Or.inr (Or.inl ⟨h4.symm, h6.symm⟩)))
theorem lx_tgs {l : List UInt8} {p : Nat} {ts : List Tok} (h : lx l p = .ok ts) : TGs ts := by
  obtain ⟨inner, e, rfl, hi⟩ := lx_inner h
  intro t ht
  rcases List.mem_append.1 ht with ht | ht
  · exact self_tg (hi t ht)
  · simp only [List.mem_singleton] at ht; subst ht; exact Or.inr (Or.inr (Or.inr (Or.inr ⟨rfl, rfl⟩)))
theorem lx_wt {l : List UInt8} {p : Nat} {ts : List Tok} (h : lx l p = .ok ts) : Wt ts ≤ 2 * l.length + 1 := by
  have : ∀ l p, ∀ ts, lx l p = .ok ts → Wt ts ≤ 2 * l.length + 1 := by
    refine lx_rec (fun p ts h => ?_) (fun c r p hb ih ts h => ?_) (fun c r p e' hb ht ts h => ?_) (fun c r p k n v hb ht ih ts h => ?_)
    · rw [lx_nil] at h; injection h with h; subst h; exact Nat.le_refl 1
    · rw [lx_blk hb] at h; have := ih ts h; simp only [List.length_cons]; omega
    · rw [lx_err hb ht] at h; cases h
    · rw [lx_tok hb ht] at h
      have hl := tokAt_len ht
      cases hh : lx ((c :: r).drop n) (p + n) with
      | error e => rw [hh] at h; cases h
      | ok us =>
        rw [hh] at h
        injection h with h
        subst h
        have := ih us hh
        rw [List.length_drop] at this
        rw [Wt_cons, List.length_take]
        omega
  exact this l p ts h

theorem outX_size : ∀ (N : Nat) (x : Item), sizeI x ≤ N → WX x → ∀ of, sizeI x ≤ wt (outX of x) := by
  intro N
  induction N with
  | zero => intro x h; have := sizeI_pos x; omega
  | succ N ih =>
    intro x hN hw of
    rcases WX_cases hw with ⟨n, a, rfl⟩ | ⟨t, a, rfl⟩ | ⟨t, a, y, rfl, hy⟩ | ⟨n, a, y, rfl, hn, hy⟩ | ⟨n, a, y, z, rfl, hn1, hn2, hy, hz⟩
    · simp only [sizeI, sizeL, outX, wt_nb, wt_nil]; omega
    · simp only [sizeI, sizeL, outX, wt_nm, wt_nil]; omega
    · simp only [sizeI, sizeL] at hN
      have := ih y (by omega) hy 1
      simp only [sizeI, sizeL, outX, wt_nm, wt_mk4, wt_append, wt_nil]; omega
    · simp only [sizeI, sizeL] at hN
      have := ih y (by omega) hy 4
      simp only [sizeI, sizeL, outX, wt_mk4]; omega
    · simp only [sizeI, sizeL] at hN
      have h1 := ih y (by omega) hy (levelN ((n : Int)).toNat)
      have h2 := ih z (by omega) hz (levelN ((n : Int)).toNat + 1)
      simp only [sizeI, sizeL, outX]
      split
      · simp only [wt_mk4, wt_append, wt_nil]; omega
      · simp only [wt_mk4, wt_append]; omega
theorem outX_sz {x : Item} (h : WX x) (of : Nat) : sizeI x ≤ wt (outX of x) := outX_size _ x (Nat.le_refl _) h of
theorem outA_sz : ∀ (l : List Item) (b : Bool), WXs l → sizeL l ≤ wt (outA b l)
  | [], _, _ => by simp [sizeL]
  | x :: r, b, h => by
    have h1 := outX_sz h.1 1
    have h2 := outA_sz r false h.2
    cases b <;> simp only [sizeL, outA, wt_append] <;> simp [wt] <;> omega
theorem outS_size : ∀ (N : Nat) (b : Bool) (x : Item), sizeI x ≤ N → WS b x → sizeI x ≤ wt (outS x) := by
  intro N
  induction N with
  | zero => intro b x h; have := sizeI_pos x; omega
  | succ N ih =>
    intro b x hN hw
    cases hw with
    | block a l hl =>
      simp only [sizeI] at hN
      have key : ∀ l : List Item, (∀ x ∈ l, WS true x) → sizeL l ≤ N → sizeL l ≤ wt (outSs l) := by
        intro l
        induction l with
        | nil => intro _ _; simp [sizeL]
        | cons y r ihl =>
          intro h1 h2
          simp only [sizeL] at h2
          have g1 := ih true y (by omega) (h1 y (List.mem_cons_self ..))
          have g2 := ihl (fun z hz => h1 z (List.mem_cons_of_mem _ hz)) (by omega)
          simp only [sizeL, outSs, wt_append]; omega
      have := key l hl (by omega)
      simp only [sizeI, outS, wt_mk4, wt_append, wt_nil]; omega
    | declare t a x hx =>
      have := outX_sz hx 1
      simp only [sizeI, sizeL, outS, wt_mk4, wt_wd, wt_nm, wt_append, wt_nil]; omega
    | assign t a x hx =>
      have := outX_sz hx 1
      simp only [sizeI, sizeL, outS, wt_mk4, wt_nm, wt_append, wt_nil]; omega
    | store t a x y hx hy =>
      have h1 := outX_sz hx 1
      have h2 := outX_sz hy 1
      simp only [sizeI, sizeL, outS, wt_mk4, wt_nm, wt_append, wt_nil]; omega
    | if1 a x b hx hb =>
      simp only [sizeI, sizeL] at hN
      have h1 := outX_sz hx 1
      have h2 := ih _ b (by omega) hb
      simp only [sizeI, sizeL, outS, wt_wd, wt_append]; omega
    | if2 a x b c hx hb hc =>
      simp only [sizeI, sizeL] at hN
      have h1 := outX_sz hx 1
      have h2 := ih _ b (by omega) hb
      have h3 := ih _ c (by omega) hc
      simp only [sizeI, sizeL, outS, wt_wd, wt_append]; omega
    | for1 a x b hx hb =>
      simp only [sizeI, sizeL] at hN
      have h1 := outX_sz hx 1
      have h2 := ih _ b (by omega) hb
      simp only [sizeI, sizeL, outS, wt_wd, wt_append]; omega
    | ret k a x hk hx =>
      have h1 := outX_sz hx 1
      rcases hk with rfl | rfl | rfl <;> simp only [sizeI, sizeL, outS, wt_mk4, wt_wd, wt_append, wt_nil] <;> omega
    | read t a =>
      simp only [sizeI, sizeL, outS, wt_mk4, wt_wd, wt_nm, wt_nil]; omega
    | call t a u b l hl =>
      have h1 := outA_sz l true hl
      simp only [sizeI, sizeL, outS, wt_mk4, wt_wd, wt_nm, wt_append, wt_nil]; omega
theorem outPs_sz : ∀ (l : List Item) (b : Bool), (∀ x ∈ l, WN 4 x) → sizeL l ≤ wt (outPs b l)
  | [], _, _ => by simp [sizeL]
  | x :: r, b, h => by
    have h2 := outPs_sz r false (fun z hz => h z (List.mem_cons_of_mem _ hz))
    have h1 : sizeI x = 1 := by
      obtain ⟨k, t, n, a, ks⟩ := x
      have := h _ (List.mem_cons_self ..)
      simp only [WN] at this
      obtain ⟨_, _, rfl⟩ := this
      rfl
    cases b <;> simp only [sizeL, outPs, wt_append, wt_nm] <;> simp [wt] <;> omega
theorem sizeL_app (a b : List Item) : sizeL (a ++ b) = sizeL a + sizeL b := by
  induction a with
  | nil => simp [sizeL]
  | cons x r ih => simp only [List.cons_append, sizeL, ih]; omega
theorem outD_sz {x : Item} (h : WD x) : sizeI x ≤ wt (outD x) := by
  cases h with
  | array t n a => simp only [sizeI, sizeL, outD, wt_wd, wt_nm, wt_mk4, wt_nb, wt_nil]; omega
  | func t a l b hl hb =>
    have h1 := outPs_sz l true hl
    have h2 := outS_size _ false b (Nat.le_refl _) hb
    simp only [sizeI, outD, sizeL_app, sizeL, wt_wd, wt_nm, wt_mk4, wt_append, List.dropLast_concat, List.getLast?_concat]
    omega
theorem outP_sz {x : Item} (h : WP x) : sizeI x ≤ wt (outP x) + 1 := by
  obtain ⟨k, t, n, a, l⟩ := x
  obtain ⟨_, _, _, hl⟩ := h
  have key : ∀ l : List Item, (∀ x ∈ l, WD x) → sizeL l ≤ wt (outDs l) := by
    intro l
    induction l with
    | nil => intro _; simp [sizeL]
    | cons y r ih =>
      intro h
      have g1 := outD_sz (h y (List.mem_cons_self ..))
      have g2 := ih (fun z hz => h z (List.mem_cons_of_mem _ hz))
      simp only [sizeL, outDs, wt_append]; omega
  have := key l hl
  simp only [sizeI, outP]; omega
/-- A tree has at most so many nodes. -/
theorem prog_size {l : List UInt8} {ts : List Tok} {x : Item} (hl : lexS l = .ok ts) (h : progS ts = .ok x) : sizeI x ≤ 2 * l.length + 2 := by
  obtain ⟨h1, h2, h3, h4⟩ := prog_shape (lexS_end hl) (lx_tgs (by rw [← lexS_lx]; exact hl)) h
  have h5 := outP_sz h1
  have h6 := lx_wt (l := l) (p := 0) (by rw [← lexS_lx]; exact hl)
  omega
end Go.Proofs.YtkkeocnnecegbaaGreatDoor

/- Plain law: what a shaped program is printed as has the tokens that were printed; when a row of nodes is right. By an AI agent. -/
namespace Go.Proofs.YtkkeocnnecegbaaGreatDoor
open Go.RowKit

def tokOf (x : Tk) : Tok := ⟨x.1, x.2.1, x.2.2, 0⟩
/-- What tokens are printed as. -/
def joinT (l : List Tk) : List UInt8 := Lib.join (l.map (·.2.1)) [32]
theorem join_lex {l : List Tk} (h : SelfL l) : ∃ bs, lexS (joinT l) = .ok bs ∧ tks bs = l ++ [(5, [], 0)] := by
  obtain ⟨bs, h1, h2⟩ := respell (l.map tokOf) (fun t ht => by
    obtain ⟨x, hx, rfl⟩ := List.mem_map.1 ht
    exact h x hx) 0
  refine ⟨bs, ?_, ?_⟩
  · rw [lexS_lx, joinT]
    rw [List.map_map] at h1
    exact h1
  · have e : (l.map tokOf).map strip = l := by
      rw [List.map_map]
      exact List.map_id' l
    rw [e] at h2
    exact h2
def textT (x : Item) : List UInt8 := joinT (outP x)
theorem text_lex {x : Item} (h : WP x) (hg : GoodI x) : ∃ bs, lexS (textT x) = .ok bs ∧ tks bs = outP x ++ [(5, [], 0)] := join_lex (outP_self h hg)
/-- PRINTED AND PARSED: the same tree. -/
theorem text_back {x : Item} (h : WP x) (hg : GoodI x) (hd : depP x ≤ 64) : ∃ bs x', lexS (textT x) = .ok bs ∧ progS bs = .ok x' ∧ erase x' = erase x := by
  obtain ⟨bs, h1, h2⟩ := text_lex h hg
  obtain ⟨us, cs, rfl, h3, h4⟩ := tks_app h2
  obtain ⟨c, rfl, h5⟩ := tks_end h4
  obtain ⟨x', h6, h7⟩ := back h h3 (c := c) (by have := (tk_is h5).1; exact this) hd
  exact ⟨_, x', h1, h6, h7⟩
theorem joinTail_length (l : List Tk) : (Lib.joinTail [32] (l.map (·.2.1))).length ≤ wt l := by
  induction l with
  | nil => simp [Lib.joinTail]
  | cons x r ih =>
    unfold Lib.joinTail at ih ⊢
    simp only [List.map_cons, List.flatten_cons, List.length_append, List.length_cons, List.length_nil, wt] at ih ⊢
    omega
theorem joinT_length (l : List Tk) : (joinT l).length ≤ wt l := by
  cases l with
  | nil => simp [joinT, Lib.join_nil]
  | cons x r =>
    have := joinTail_length r
    rw [joinT, List.map_cons, Lib.join_cons, List.length_append]
    simp only [wt]
    omega
/-- RIGHT: a shaped program, in order, that is parsed as itself. -/
def RightX (x : Item) : Prop := ∃ bs x', lexS (textT x) = .ok bs ∧ progS bs = .ok x' ∧ erase x' = erase x
structure ShapeG (G : List GN) (x : Item) : Prop where
  at0 : AtI G 0 x
  len : G.length = sizeI x
  sh : ShapedI x
  k1 : kindI x = 1
def RightG (G : List GN) : Prop := ∃ x, ShapeG G x ∧ RightX x
theorem ShapeG.wp {G : List GN} {x : Item} (h : ShapeG G x) : WP x ∧ GoodI x := shaped_wp h.sh h.k1
theorem ShapeG.same {G H : List GN} {x y : Item} (h : ShapeG G x) (h' : ShapeG H y) : sameG G H ↔ erase x = erase y :=
  ⟨fun hs => same_at hs h.at0 h'.at0, fun e => at_sameG h.at0 h'.at0 e h.len h'.len⟩
theorem ShapeG.uniq {G : List GN} {x y : Item} (h : ShapeG G x) (h' : ShapeG G y) : erase x = erase y := (h.same h').1 (sameG_refl G)
theorem ShapeG.text {G H : List GN} {x y : Item} (h : ShapeG G x) (h' : ShapeG H y) (e : erase x = erase y) : textT x = textT y := by
  unfold textT; rw [outP_same h.wp.1 h'.wp.1 e]
theorem ShapeG.right {G : List GN} {x : Item} (h : ShapeG G x) : RightG G ↔ RightX x := by
  constructor
  · rintro ⟨y, hy, bs, y', h1, h2, h3⟩
    have e := hy.uniq h
    exact ⟨bs, y', by rw [← hy.text h e]; exact h1, h2, h3.trans e⟩
  · exact fun hr => ⟨x, h, hr⟩
/-- PRINTED THE SAME just if the same. -/
theorem RightX.unlike {G H : List GN} {x y : Item} (h : ShapeG G x) (h' : ShapeG H y) (r : RightX x) (r' : RightX y) : textT x = textT y ↔ sameG G H := by
  rw [h.same h']
  constructor
  · intro e
    obtain ⟨bs, x', h1, h2, h3⟩ := r
    obtain ⟨cs, y', g1, g2, g3⟩ := r'
    rw [e, g1] at h1
    injection h1 with h1
    subst h1
    rw [g2] at h2
    injection h2 with h2
    subst h2
    exact h3.symm.trans g3
  · exact fun e => h.text h' e
/-- WHAT IS PARSED is right. -/
theorem parsed_shape {l : List UInt8} {ts : List Tok} {x : Item} (hl : lexS l = .ok ts) (h : progS ts = .ok x) : ShapeG ((flat 0 x).map gn) x ∧ RightX x ∧ (textT x).length ≤ 2 * l.length + 1 := by
  have hlx : lx l 0 = .ok ts := by rw [← lexS_lx]; exact hl
  obtain ⟨h1, h2, h3, h4⟩ := prog_shape (lexS_end hl) (lx_tgs hlx) h
  obtain ⟨s1, s2⟩ := wp_shaped h1 h2
  refine ⟨⟨flat_at0 x, by rw [List.length_map, flat_length], s1, s2⟩, text_back h1 h2 h3, ?_⟩
  have h5 := lx_wt hlx
  have h6 := joinT_length (outP x)
  unfold textT
  omega
theorem short_text {G : List GN} {x : Item} {m : Nat} (h : ShapeG G x) (hs : ShortI m G) : (textT x).length ≤ (m + 40) * G.length := by
  have := outP_wt h.wp.1 h.wp.2 (at_max hs x 0 h.at0)
  have h6 := joinT_length (outP x)
  unfold textT
  rw [h.len]
  omega

theorem atL_offs {T : List GN} : ∀ {l : List Item} {i : Nat}, AtL T i l → ∀ o ∈ offs i l, o < T.length
  | [], _, _, o, ho => by cases ho
  | x :: r, i, h, o, ho => by
    simp only [offs, List.mem_cons] at ho
    rcases ho with rfl | ho
    · exact h.1.lt
    · exact atL_offs h.2 o ho
mutual
theorem at_range {T : List GN} : ∀ {x : Item} {i : Nat}, AtI T i x → ∀ j g, i ≤ j → j < i + sizeI x → T[j]? = some g → ∀ k ∈ g.kids, 0 ≤ k ∧ k < (T.length : Int)
  | .mk k t n a ks, i, h, j, g, h1, h2, hg => by
    obtain ⟨⟨b, hb⟩, hl⟩ := h
    by_cases hj : j = i
    · subst hj
      rw [hb] at hg; injection hg with hg; subst hg
      intro q hq
      obtain ⟨o, ho, rfl⟩ := List.mem_map.1 hq
      have := atL_offs hl o ho
      omega
    · exact atL_range hl j g (by omega) (by simp only [sizeI] at h2; omega) hg
theorem atL_range {T : List GN} : ∀ {l : List Item} {i : Nat}, AtL T i l → ∀ j g, i ≤ j → j < i + sizeL l → T[j]? = some g → ∀ k ∈ g.kids, 0 ≤ k ∧ k < (T.length : Int)
  | [], i, _, j, g, h1, h2, _ => by simp only [sizeL] at h2; omega
  | x :: r, i, h, j, g, h1, h2, hg => by
    by_cases hj : j < i + sizeI x
    · exact at_range h.1 j g h1 hj hg
    · exact atL_range h.2 j g (by omega) (by simp only [sizeL] at h2; omega) hg
end
/-- In order, from the first: kids stand within. -/
theorem order_range {G : List GN} {x : Item} (h : AtI G 0 x) (hl : G.length = sizeI x) : ∀ g ∈ G, ∀ k ∈ g.kids, 0 ≤ k ∧ k < (G.length : Int) := by
  intro g hg
  obtain ⟨j, hj⟩ := List.mem_iff_getElem?.1 hg
  exact at_range h j g (Nat.zero_le _) (by have := (List.getElem?_eq_some_iff.1 hj).1; omega) hj
theorem order_iff {G : List GN} {f : Nat} (hf : G.length ≤ f) : behindG G f 0 = some G.length ↔ ∃ x, AtI G 0 x ∧ G.length = sizeI x := by
  constructor
  · intro h
    obtain ⟨x, h1, h2⟩ := behind_item f 0 _ h
    exact ⟨x, h1, by omega⟩
  · rintro ⟨x, h1, h2⟩
    rw [item_behind f 0 x h1 (by omega)]
    congr 1; omega
theorem shapeG_of {G : List GN} {x : Item} (h : AtI G 0 x) (hl : G.length = sizeI x) {g : GN} (hg : G[0]? = some g) (hk : g.kind = 1) (ho : ∀ g ∈ G, okG G g = true) : ShapeG G x := by
  refine ⟨h, hl, (at_shaped h).2 (fun j g _ _ hj => ho g (List.mem_of_getElem? hj)), ?_⟩
  obtain ⟨k, t, n, a, ks⟩ := x
  obtain ⟨⟨b, hb⟩, _⟩ := h
  rw [hb] at hg; injection hg with hg; subst hg
  exact hk
theorem ShapeG.all {G : List GN} {x : Item} (h : ShapeG G x) : (∃ g, G[0]? = some g ∧ g.kind = 1) ∧ behindG G G.length 0 = some G.length ∧ ∀ g ∈ G, okG G g = true := by
  refine ⟨?_, (order_iff (Nat.le_refl _)).2 ⟨x, h.at0, h.len⟩, fun g hg => ?_⟩
  · obtain ⟨h1, h2, h3, h4⟩ := h
    obtain ⟨k, t, n, a, ks⟩ := x
    obtain ⟨⟨b, hb⟩, _⟩ := h1
    exact ⟨_, hb, h4⟩
  · obtain ⟨j, hj⟩ := List.mem_iff_getElem?.1 hg
    exact (at_shaped h.at0).1 h.sh j g (Nat.zero_le _) (by have := (List.getElem?_eq_some_iff.1 hj).1; have := h.len; omega) hj
end Go.Proofs.YtkkeocnnecegbaaGreatDoor

/- Plain law of ParseBack: printed or spelled, and parsed again, a source is the same tree. By an AI agent. -/
namespace Go.Proofs.YtkkeocnnecegbaaGreatDoor
open Go.RowKit

theorem texts_cons (t : Tok) (x : List Tok) : texts (t :: x) = if good t then t.text :: texts x else texts x := by
  unfold texts; rw [List.filter_cons]; split <;> simp
theorem lx_sum {l : List UInt8} {p : Nat} {ts : List Tok} (h : lx l p = .ok ts) : Lib.lens (texts ts) ≤ l.length ∧ (texts ts).length ≤ l.length := by
  have : ∀ l p, ∀ ts, lx l p = .ok ts → Lib.lens (texts ts) ≤ l.length ∧ (texts ts).length ≤ l.length := by
    refine lx_rec (fun p ts h => ?_) (fun c r p hb ih ts h => ?_) (fun c r p e' hb ht ts h => ?_) (fun c r p k n v hb ht ih ts h => ?_)
    · rw [lx_nil] at h; injection h with h; subst h; exact ⟨by simp [texts, good, Lib.lens], by simp [texts, good]⟩
    · rw [lx_blk hb] at h; have := ih ts h; rw [List.length_cons]; omega
    · rw [lx_err hb ht] at h; cases h
    · rw [lx_tok hb ht] at h
      cases hx : lx ((c :: r).drop n) (p + n) with
      | error e' => rw [hx] at h; cases h
      | ok x =>
        rw [hx] at h; injection h with h; subst h
        have hl := tokAt_len ht
        have := ih x hx
        rw [List.length_drop] at this
        rw [texts_cons]
        split
        · simp only [Lib.lens, List.map_cons, List.sum_cons, List.length_cons, List.length_take] at this ⊢
          simp only [List.length_cons] at hl
          omega
        · omega
  exact this l p ts h
theorem spell_short {l : List UInt8} {ts : List Tok} (h : lexS l = .ok ts) : (spellL ts).length ≤ 2 * l.length := by
  obtain ⟨h1, h2⟩ := lx_sum (show lx l 0 = .ok ts from h)
  unfold spellL
  cases ht : texts ts with
  | nil => rw [Lib.join_nil]; simp
  | cons x r =>
    rw [ht] at h1 h2
    rw [Lib.join_length]
    simp only [List.length_cons, List.length_nil] at h2 ⊢
    omega
theorem lx_many_le {l : List UInt8} {p : Nat} {ts : List Tok} (h : lx l p = .ok ts) : ts.length ≤ l.length + 1 := by
  have : ∀ l p, ∀ ts, lx l p = .ok ts → ts.length ≤ l.length + 1 := by
    refine lx_rec (fun p ts h => ?_) (fun c r p hb ih ts h => ?_) (fun c r p e' hb ht ts h => ?_) (fun c r p k n v hb ht ih ts h => ?_)
    · rw [lx_nil] at h; injection h with h; subst h; simp
    · rw [lx_blk hb] at h; have := ih ts h; rw [List.length_cons]; omega
    · rw [lx_err hb ht] at h; cases h
    · rw [lx_tok hb ht] at h
      cases hx : lx ((c :: r).drop n) (p + n) with
      | error e' => rw [hx] at h; cases h
      | ok x =>
        rw [hx] at h; injection h with h; subst h
        have hl := tokAt_len ht
        have := ih x hx
        rw [List.length_drop] at this
        simp only [List.length_cons] at hl ⊢
        simp only [List.length_cons] at this
        omega
  exact this l p ts h
mutual
theorem sim_erase {S : Nat → Nat → Prop} : ∀ {x y : Item}, SimI S x y → erase y = erase x
  | .mk k t n a ks, .mk k' t' n' a' ks', h => by
    cases h with
    | mk _ _ _ _ _ _ _ h1 h2 =>
      simp only [erase, simL_erase h2]
theorem simL_erase {S : Nat → Nat → Prop} : ∀ {x y : List Item}, SimL S x y → eraseL y = eraseL x
  | [], [], _ => rfl
  | [], _ :: _, h => by cases h
  | _ :: _, [], h => by cases h
  | x :: r, y :: s, h => by
    cases h with
    | cons _ _ _ _ h1 h2 => simp only [eraseL, sim_erase h1, simL_erase h2]
end
/-- The same tokens, but for places: the same program. -/
theorem prog_tks {ts us : List Tok} {x : Item} (h : tks us = tks ts) (he : EndL ts) (hp : progS ts = .ok x) : ∃ y, progS us = .ok y ∧ erase y = erase x := by
  have hl : us.length = ts.length := by have := congrArg List.length h; simpa [tks] using this
  have hz1 : Z.l (ts.zip us) = ts := by simp [Z.l, List.map_fst_zip, hl]
  have hz2 : Z.r (ts.zip us) = us := by simp [Z.r, List.map_snd_zip, hl]
  have hzs : ZS (fun _ _ => True) (ts.zip us) := by
    intro p hp
    obtain ⟨i, hi⟩ := List.mem_iff_getElem?.1 hp
    rw [List.getElem?_zip_eq_some] at hi
    have := congrArg (·[i]?) h
    simp only [tks, List.getElem?_map, hi.1, hi.2, Option.map_some, Option.some.injEq] at this
    exact ⟨this.symm, trivial⟩
  rcases prog_sim hzs (by rw [hz1]; exact he) with e1 | ⟨p, e, q, e1, e2, _⟩ | ⟨x', y, e1, e2, e3⟩
  · rw [hz1, hp] at e1; cases e1
  · rw [hz1, hp] at e1; cases e1
  · rw [hz1, hp] at e1; injection e1 with e1; subst e1
    rw [hz2] at e2
    exact ⟨y, e2, sim_erase e3⟩
theorem parse_two {l : List UInt8} {x : Item} (h : parseS l = .ok x) : ∃ ts, lexS l = .ok ts ∧ progS ts = .ok x := by
  unfold parseS at h
  cases hl : lexS l with
  | error e => rw [hl] at h; cases h
  | ok bs => rw [hl] at h; exact ⟨bs, rfl, h⟩
theorem parse_of {l : List UInt8} {ts : List Tok} {x : Item} (h1 : lexS l = .ok ts) (h2 : progS ts = .ok x) : parseS l = .ok x := by
  unfold parseS; rw [h1]; exact h2
/-- Printed. -/
theorem back_text {l : List UInt8} {x : Item} (h : parseS l = .ok x) : ShapeG ((flat 0 x).map gn) x ∧ RightX x ∧ wt (outP x) ≤ 2 * l.length + 1 ∧ (textT x).length ≤ 2 * l.length + 1 ∧ ∃ y, parseS (textT x) = .ok y ∧ erase y = erase x := by
  obtain ⟨ts, h1, h2⟩ := parse_two h
  obtain ⟨h3, h4, h5⟩ := parsed_shape h1 h2
  have hlx : lx l 0 = .ok ts := by rw [← lexS_lx]; exact h1
  obtain ⟨_, _, _, h6⟩ := prog_shape (lexS_end h1) (lx_tgs hlx) h2
  refine ⟨h3, h4, Nat.le_trans h6 (lx_wt hlx), h5, ?_⟩
  obtain ⟨bs, y, g1, g2, g3⟩ := h4
  exact ⟨y, parse_of g1 g2, g3⟩
/-- Spelled, between blanks. -/
theorem back_spell {l : List UInt8} {ts : List Tok} {x : Item} (h1 : lexS l = .ok ts) (h2 : progS ts = .ok x) : ∃ y, parseS (10 :: (spellL ts ++ [32])) = .ok y ∧ erase y = erase x := by
  obtain ⟨bs, g1, g2⟩ := spelled_same h1
  have hs : lx (spellL ts) 0 = .ok bs := by rw [← lexS_lx]; exact g1
  have h10 : lx (spellL ts) (0 + 1) = .ok (bs.map (shiftT 1)) := by rw [lx_shift 1, hs]; rfl
  have h3 : lexS (10 :: (spellL ts ++ [32])) = .ok ((bs.map (shiftT 1)).dropLast ++ [⟨5, [], 0, 0 + 1 + (spellL ts).length + 1⟩]) := by
    rw [lexS_lx, lx_blk (by decide), lx_more (by decide), h10]
    simp only [lx_nil, mapOk]
  obtain ⟨inner, e, hi, _⟩ := lx_inner hs
  have htk : tks ((bs.map (shiftT 1)).dropLast ++ [⟨5, [], 0, 0 + 1 + (spellL ts).length + 1⟩]) = tks ts := by
    have g3 : tks bs = tks ts := g2
    rw [← g3, hi]
    simp [tks, tk, shiftT, Function.comp_def]
  obtain ⟨y, e1, e2⟩ := prog_tks htk (lexS_end h1) h2
  exact ⟨y, parse_of h3 e1, e2⟩
end Go.Proofs.YtkkeocnnecegbaaGreatDoor

/- Plain law: no text in a tree is longer than what it is printed as. By an AI agent. -/
namespace Go.Proofs.YtkkeocnnecegbaaGreatDoor
open Go.RowKit

theorem outX_max {m : Nat} : ∀ (N : Nat) (x : Item), sizeI x ≤ N → WX x → ∀ of, wt (outX of x) ≤ m → MaxT m x := by
  intro N
  induction N with
  | zero => intro x h; have := sizeI_pos x; omega
  | succ N ih =>
    intro x hN hw of h
    rcases WX_cases hw with ⟨n, a, rfl⟩ | ⟨t, a, rfl⟩ | ⟨t, a, y, rfl, hy⟩ | ⟨n, a, y, rfl, hn, hy⟩ | ⟨n, a, y, z, rfl, hn1, hn2, hy, hz⟩
    · exact ⟨Nat.zero_le _, trivial⟩
    · simp only [outX, wt_nm, wt_nil] at h
      exact ⟨by omega, trivial⟩
    · simp only [sizeI, sizeL] at hN
      simp only [outX, wt_nm, wt_mk4, wt_append, wt_nil] at h
      exact ⟨by omega, ih y (by omega) hy 1 (by omega), trivial⟩
    · simp only [sizeI, sizeL] at hN
      simp only [outX, wt_mk4] at h
      exact ⟨Nat.zero_le _, ih y (by omega) hy 4 (by omega), trivial⟩
    · simp only [sizeI, sizeL] at hN
      have h1 : wt (outX (levelN ((n : Int)).toNat) y) ≤ m ∧ wt (outX (levelN ((n : Int)).toNat + 1) z) ≤ m := by
        simp only [outX] at h
        split at h
        · simp only [wt_mk4, wt_append, wt_nil] at h; omega
        · simp only [wt_mk4, wt_append] at h; omega
      exact ⟨Nat.zero_le _, ih y (by omega) hy _ h1.1, ih z (by omega) hz _ h1.2, trivial⟩
theorem outX_mx {m : Nat} {x : Item} (h : WX x) {of : Nat} (hm : wt (outX of x) ≤ m) : MaxT m x := outX_max _ x (Nat.le_refl _) h of hm
theorem outA_max {m : Nat} : ∀ (l : List Item) (b : Bool), WXs l → wt (outA b l) ≤ m → MaxTs m l
  | [], _, _, _ => trivial
  | x :: r, b, h, hm => by
    have h1 : wt (outX 1 x) ≤ m ∧ wt (outA false r) ≤ m := by
      simp only [outA, wt_append] at hm
      omega
    exact ⟨outX_mx h.1 h1.1, outA_max r false h.2 h1.2⟩
theorem outPs_max {m : Nat} : ∀ (l : List Item) (b : Bool), (∀ x ∈ l, WN 4 x) → wt (outPs b l) ≤ m → MaxTs m l
  | [], _, _, _ => trivial
  | x :: r, b, h, hm => by
    have h1 : (textI x).length ≤ m ∧ wt (outPs false r) ≤ m := by
      simp only [outPs, wt_append, wt_nm] at hm
      omega
    refine ⟨?_, outPs_max r false (fun z hz => h z (List.mem_cons_of_mem _ hz)) h1.2⟩
    obtain ⟨k, t, n, a, ks⟩ := x
    have := h _ (List.mem_cons_self ..)
    simp only [WN] at this
    obtain ⟨_, _, rfl⟩ := this
    exact ⟨h1.1, trivial⟩
theorem outS_max {m : Nat} : ∀ (N : Nat) (b : Bool) (x : Item), sizeI x ≤ N → WS b x → wt (outS x) ≤ m → MaxT m x := by
  intro N
  induction N with
  | zero => intro b x h; have := sizeI_pos x; omega
  | succ N ih =>
    intro b x hN hw h
    cases hw with
    | block a l hl =>
      simp only [sizeI] at hN
      have key : ∀ l : List Item, (∀ x ∈ l, WS true x) → sizeL l ≤ N → wt (outSs l) ≤ m → MaxTs m l := by
        intro l
        induction l with
        | nil => intro _ _ _; trivial
        | cons y r ihl =>
          intro h1 h2 h3
          simp only [sizeL] at h2
          simp only [outSs, wt_append] at h3
          exact ⟨ih true y (by omega) (h1 y (List.mem_cons_self ..)) (by omega), ihl (fun z hz => h1 z (List.mem_cons_of_mem _ hz)) (by omega) (by omega)⟩
      simp only [outS, wt_mk4, wt_append, wt_nil] at h
      exact ⟨Nat.zero_le _, key l hl (by omega) (by omega)⟩
    | declare t a x hx =>
      simp only [outS, wt_mk4, wt_wd, wt_nm, wt_append, wt_nil] at h
      exact ⟨by omega, outX_mx hx (of := 1) (by omega), trivial⟩
    | assign t a x hx =>
      simp only [outS, wt_mk4, wt_nm, wt_append, wt_nil] at h
      exact ⟨by omega, outX_mx hx (of := 1) (by omega), trivial⟩
    | store t a x y hx hy =>
      simp only [outS, wt_mk4, wt_nm, wt_append, wt_nil] at h
      exact ⟨by omega, outX_mx hx (of := 1) (by omega), outX_mx hy (of := 1) (by omega), trivial⟩
    | if1 a x b hx hb =>
      simp only [sizeI, sizeL] at hN
      simp only [outS, wt_wd, wt_append] at h
      exact ⟨Nat.zero_le _, outX_mx hx (of := 1) (by omega), ih _ b (by omega) hb (by omega), trivial⟩
    | if2 a x b c hx hb hc =>
      simp only [sizeI, sizeL] at hN
      simp only [outS, wt_wd, wt_append] at h
      exact ⟨Nat.zero_le _, outX_mx hx (of := 1) (by omega), ih _ b (by omega) hb (by omega), ih _ c (by omega) hc (by omega), trivial⟩
    | for1 a x b hx hb =>
      simp only [sizeI, sizeL] at hN
      simp only [outS, wt_wd, wt_append] at h
      exact ⟨Nat.zero_le _, outX_mx hx (of := 1) (by omega), ih _ b (by omega) hb (by omega), trivial⟩
    | ret k a x hk hx =>
      have h1 : wt (outX 1 x) ≤ m := by
        rcases hk with rfl | rfl | rfl <;> simp only [outS, wt_mk4, wt_wd, wt_append, wt_nil] at h <;> omega
      exact ⟨Nat.zero_le _, outX_mx hx h1, trivial⟩
    | read t a =>
      simp only [outS, wt_mk4, wt_wd, wt_nm, wt_nil] at h
      exact ⟨by omega, trivial⟩
    | call t a u b l hl =>
      simp only [outS, textI, wt_mk4, wt_wd, wt_nm, wt_append, wt_nil] at h
      exact ⟨by omega, ⟨by omega, trivial⟩, outA_max l true hl (by omega)⟩
theorem outD_max {m : Nat} {x : Item} (h : WD x) (hm : wt (outD x) ≤ m) : MaxT m x := by
  cases h with
  | array t n a =>
    simp only [outD, wt_wd, wt_nm, wt_mk4, wt_nb, wt_nil] at hm
    exact ⟨by omega, trivial⟩
  | func t a l b hl hb =>
    simp only [outD, wt_wd, wt_nm, wt_mk4, wt_append, List.dropLast_concat, List.getLast?_concat] at hm
    have h1 := outPs_max l true hl (m := m) (by omega)
    have h2 := outS_max _ false b (Nat.le_refl _) hb (m := m) (by omega)
    refine ⟨by omega, maxTs_of (fun x hx => ?_)⟩
    rcases List.mem_append.1 hx with hx | hx
    · exact maxTs_mem h1 x hx
    · rw [List.mem_singleton] at hx; subst hx; exact h2
theorem outP_max {m : Nat} {x : Item} (h : WP x) (hm : wt (outP x) ≤ m) : MaxT m x := by
  obtain ⟨k, t, n, a, l⟩ := x
  obtain ⟨_, rfl, _, hl⟩ := h
  have key : ∀ l : List Item, (∀ x ∈ l, WD x) → wt (outDs l) ≤ m → MaxTs m l := by
    intro l
    induction l with
    | nil => intro _ _; trivial
    | cons y r ih =>
      intro h hm
      simp only [outDs, wt_append] at hm
      exact ⟨outD_max (h y (List.mem_cons_self ..)) (by omega), ih (fun z hz => h z (List.mem_cons_of_mem _ hz)) (by omega)⟩
  exact ⟨Nat.zero_le _, key l hl hm⟩
mutual
theorem max_flat {m : Nat} : ∀ (x : Item) (o : Nat), MaxT m x → ∀ g ∈ flat o x, g.text.length ≤ m
  | .mk k t n a ks, o, h, g, hg => by
    simp only [flat, List.mem_cons] at hg
    rcases hg with rfl | hg
    · exact h.1
    · exact max_flatL ks _ h.2 g hg
theorem max_flatL {m : Nat} : ∀ (l : List Item) (o : Nat), MaxTs m l → ∀ g ∈ flatL o l, g.text.length ≤ m
  | [], _, _, g, hg => by simp [flatL] at hg
  | x :: r, o, h, g, hg => by
    simp only [flatL, List.mem_append] at hg
    rcases hg with hg | hg
    · exact max_flat x o h.1 g hg
    · exact max_flatL r _ h.2 g hg
end
end Go.Proofs.YtkkeocnnecegbaaGreatDoor
