/- Regions that draw their order: whatever order is picked comes to what the evaluator reckoned. No condition. -/
import Derived.Test.YtgdibfnpkcdiiaaGreatDoorEwDa
namespace Go.Proofs.YtgdibfnpkcdiiaaGreatDoor
namespace Ev

def cnt (l : Array Bool) : Nat := (l.toList.filter (fun x => !x)).length
theorem cnt_list : ∀ (l : List Bool) (i : Nat), l[i]? = some false → ((l.set i true).filter (fun x => !x)).length + 1 = (l.filter (fun x => !x)).length
  | [], i, h => by simp at h
  | x :: l, 0, h => by simp at h; subst h; simp
  | x :: l, i + 1, h => by
    have := cnt_list l i (by simpa using h)
    rw [List.set_cons_succ, List.filter_cons, List.filter_cons]
    split
    · simp only [List.length_cons]; omega
    · exact this
theorem cnt_set {l : Array Bool} {i : Nat} (h : l.getD i true = false) : cnt (l.setIfInBounds i true) + 1 = cnt l := by
  unfold cnt
  rw [Array.toList_setIfInBounds]
  refine cnt_list l.toList i ?_
  rw [Array.getElem?_toList]
  rw [Array.getD_eq_getD_getElem?] at h
  cases hq : l[i]? with
  | none => rw [hq] at h; cases h
  | some b => rw [hq, Option.getD_some] at h; rw [h]
theorem cnt_zero {l : Array Bool} (h : cnt l = 0) {i : Nat} (hi : i < l.size) : l.getD i false = true := by
  unfold cnt at h
  have h0 := List.length_eq_zero_iff.1 h
  have hm : l[i] ∈ l.toList := by simp
  have := List.filter_eq_nil_iff.1 h0 _ hm
  rw [Array.getD_eq_getD_getElem?, Array.getElem?_eq_getElem hi, Option.getD_some]
  simpa using this

theorem not_listed {l : Array Bool} {i : Nat} (h : l.getD i true = false) : l.getD i false = false ∧ i < l.size := by
  rw [Array.getD_eq_getD_getElem?] at h ⊢
  cases hq : l[i]? with
  | none => rw [hq] at h; cases h
  | some b => rw [hq, Option.getD_some] at h; rw [h]; exact ⟨rfl, (Array.getElem?_eq_some_iff.1 hq).1⟩
theorem un_listed {l : Array Bool} {i : Nat} (h : l.getD i false = false) (hi : i < l.size) : l.getD i true = false := by
  rw [Array.getD_eq_getD_getElem?, Array.getElem?_eq_getElem hi, Option.getD_some] at h ⊢
  exact h
theorem set_getD {l : Array Bool} {i : Nat} (hi : i < l.size) (j : Nat) : (l.setIfInBounds i true).getD j false = (if j = i then true else l.getD j false) := by
  by_cases e : j = i
  · subst e; rw [if_pos rfl, Array.getD_eq_getD_getElem?, Array.getElem?_setIfInBounds]; simp [hi]
  · rw [if_neg e, getD_set_ne false (Ne.symm e)]

section
variable {P : Program} {K : Kon} {call : Nat → St → RS} {n : Nat} {ops : Array Oper} {ac : Option Nat} {g0 : Gh} {st0 : St} {w0 : World}

/-- One that came early: its block is nobody's. -/
def Early (P : Program) (K : Kon) (ops : Array Oper) (w0 : World) (g : Gh) (w : World) (a : Act) (i : Nat) : Prop :=
  ∃ o d zs el vf blk, ops[i]? = some o ∧ o.dst = some d ∧ AcV P K o zs el vf ∧ a.eval (.tmp d) = vf ⟨blk, 0, none⟩ ∧ w.heap[blk]? = some (.cells zs el (0, 0)) ∧ ¬ Own g blk ∧ w0.heap.size ≤ blk

structure Inv (P : Program) (K : Kon) (call : Nat → St → RS) (ops : Array Oper) (n : Nat) (ac : Option Nat) (g0 : Gh) (st0 : St) (w0 : World) (D A : List Nat) (listed : Array Bool) (g : Gh) (st : St) (w : World) (b a : Act) : Prop where
  kin : K.In g
  hr : HR g st w
  fr : Fr g0 w0 g w
  ext : Ext st0.R st0.nR st.R st.nR
  v : FR g st b n
  sz : a.tmps.size = b.tmps.size
  df : a.defers = b.defers
  eq : ∀ t, (∀ i ∈ D, listed.getD i false = false → (oiAt (ops.toList.map (oiOf P ops)) i).dst ≠ some t) → (∀ i, listed.getD i false = true → i ∉ D → (oiAt (ops.toList.map (oiOf P ops)) i).dst ≠ some t) → a.eval (.tmp t) = b.eval (.tmp t)
  sub : ∀ i, listed.getD i false = true → i ∈ D ∨ (ac = some i ∧ Early P K ops w0 g w a i)
  flt : ∀ i ∈ D, listed.getD i false = false → i < ops.size ∧ (oiAt (ops.toList.map (oiOf P ops)) i).q = true ∧ Ck call P K ops st i
  anc : ∀ i ∈ A, listed.getD i false = true
  cl : ∀ i, listed.getD i false = true → ∀ j ∈ (oiAt (ops.toList.map (oiOf P ops)) i).pre, listed.getD j false = true
  ls : listed.size = ops.size
  dcl : ∀ i ∈ D, ∀ j ∈ (oiAt (ops.toList.map (oiOf P ops)) i).pre, j ∈ D

theorem gl_spec {inf : List OI} {N : Nat} (h : glB inf ac N n = true) {i : Nat} (hi : i < N) :
    (∀ j, j < N → (oiAt inf j).q = true ∨ ac = some j → (i ≠ j → (oiAt inf i).dst ≠ (oiAt inf j).dst) ∧ ∀ t ∈ (oiAt inf i).lk, (oiAt inf j).dst = some t → j ∈ (oiAt inf i).pre) ∧ ltO n (oiAt inf i).dst = true ∧ ∀ j ∈ (oiAt inf i).pre, j < i := by
  unfold glB at h
  rw [List.all_eq_true] at h
  have h := h i (List.mem_range.2 hi)
  simp only [Bool.and_eq_true] at h
  obtain ⟨⟨h1, h2⟩, h3⟩ := h
  rw [List.all_eq_true] at h1 h3
  refine ⟨fun j hj hq => ?_, h2, fun j hj => blt_t (h3 j hj)⟩
  have h1 := h1 j (List.mem_range.2 hj)
  have hq' : (!(oiAt inf j).q && !decide (ac = some j)) = false := by
    rcases hq with hq | hq
    · rw [hq]; rfl
    · rw [hq]; simp
  rw [hq'] at h1
  simp only [Bool.false_or, Bool.and_eq_true] at h1
  refine ⟨fun hne he => ?_, fun t ht hd => ?_⟩
  · rw [he] at h1
    simp only [decide_true, Bool.not_true, Bool.or_false] at h1
    exact hne (beq_t h1.1)
  · have := List.all_eq_true.1 h1.2 t ht
    rw [hd] at this
    simpa using this

theorem anc_spec {inf : List OI} {e : Nat} {L : Nat → Prop} (he : ∀ j ∈ (oiAt inf e).pre, L j) (hc : ∀ i, L i → ∀ j ∈ (oiAt inf i).pre, L j) : ∀ (l seen : List Nat), (∀ i ∈ seen, L i) → ancB inf e seen l = true → ∀ j ∈ l, L j
  | [], _, _, _, j, hj => by simp at hj
  | k :: l, seen, hs, h, j, hj => by
    simp only [ancB, Bool.and_eq_true, Bool.or_eq_true] at h
    obtain ⟨h1, h2⟩ := h
    have hk : L k := by
      rcases h1 with h1 | h1
      · exact he k (by simpa using h1)
      · obtain ⟨i, hi, hq⟩ := List.any_eq_true.1 h1
        exact hc i (hs i hi) k (by simpa using hq)
    rcases List.mem_cons.1 hj with rfl | hj
    · exact hk
    · exact anc_spec he hc l (k :: seen) (fun i hi => by
        rcases List.mem_cons.1 hi with rfl | hi
        · exact hk
        · exact hs i hi) h2 j hj

theorem drawn_end {Q : Exit → Act → World → Prop} {y : Nat} {stF : St}
    (hQ : ∀ g w a, K.In g → HR g stF w → Fr g0 w0 g w → Ext st0.R st0.nR stF.R stF.nR → FR g stF a n → Q .normal a w)
    {listed : Array Bool} {D A : List Nat} {g : Gh} {st : St} {w : World} {b a : Act} {l : List Stp} (hI : Inv P K call ops n ac g0 st0 w0 D A listed g st w b a) (hall : ∀ i, i < ops.size → listed.getD i false = true)
    (hl : cItms P K ops (itms []) = some l) (hr : runS call l st = .ok y stF) (hst : stB (ops.toList.map (oiOf P ops)) ac ops.size n D A [] = true) : Q .normal a w := by
  simp only [itms, cItms] at hl
  injection hl with hl
  subst hl
  change RS.ok 0 st = .ok y stF at hr
  injection hr with _ hr
  subst hr
  refine hQ g w a hI.kin hI.hr hI.fr hI.ext ⟨by rw [hI.sz]; exact hI.v.size, fun t => ?_, by rw [hI.df]; exact hI.v.defers⟩
  rw [hI.eq t (fun i hi hu => ?_) (fun i hi hu => ?_)]
  · exact hI.v.slot t
  · have := hall i (hI.flt i hi hu).1
    rw [this] at hu; cases hu
  · exfalso
    simp only [stB] at hst
    rw [List.all_eq_true] at hst
    have hlt : i < ops.size := by
      rw [← hI.ls]
      rw [Array.getD_eq_getD_getElem?] at hi
      cases hq : listed[i]? with
      | none => rw [hq] at hi; cases hi
      | some b => exact (Array.getElem?_eq_some_iff.1 hq).1
    exact hu (by simpa using hst i (List.mem_range.2 hlt))

theorem ready_none {listed : Array Bool} (hls : listed.size = ops.size) (hgl : glB (ops.toList.map (oiOf P ops)) ac ops.size n = true) (hr : Region.ready .any ops listed = []) : ∀ i, i < ops.size → listed.getD i false = true := by
  intro i
  induction i using Nat.strongRecOn with
  | ind i ih =>
    intro hi
    cases hq : listed.getD i false with
    | true => rfl
    | false =>
      exfalso
      have ho : ops[i]? = some ops[i] := Array.getElem?_eq_getElem hi
      have : i ∈ Region.ready .any ops listed := mem_ready.2 ⟨un_listed hq (by rw [hls]; exact hi), ops[i], ho, fun e he hb => by
        have hp : e.on ∈ (oiAt (ops.toList.map (oiOf P ops)) i).pre := by rw [oiAt_eq ho]; exact pre_mem.2 ⟨e, he, hb, rfl⟩
        have hlt := (gl_spec hgl hi).2.2 _ hp
        exact ih _ hlt (Nat.lt_trans hlt hi)⟩
      rw [hr] at this
      cases this

/-- What comes up looks at slots that are as they should be. -/
theorem Inv.np {D A : List Nat} {listed : Array Bool} {g : Gh} {st : St} {w : World} {b a : Act} (hI : Inv P K call ops n ac g0 st0 w0 D A listed g st w b a) (hgl : glB (ops.toList.map (oiOf P ops)) ac ops.size n = true) {i : Nat} {o : Oper} (hi : i < ops.size)
    (ho : ops[i]? = some o) (hp : ∀ j ∈ (oiAt (ops.toList.map (oiOf P ops)) i).pre, listed.getD j false = true) (hpD : ∀ j ∈ (oiAt (ops.toList.map (oiOf P ops)) i).pre, j ∈ D) : ∀ t ∈ o.looksAt ops, TR g st.R st.nR (gt st.T t) (a.eval (.tmp t)) := fun t ht => by
  rw [hI.eq t (fun j hj hu hd => ?_) (fun j hl hj hd => ?_)]
  · exact hI.v.slot t
  · obtain ⟨j1, j2, _⟩ := hI.flt j hj hu
    have := ((gl_spec hgl hi).1 j j1 (.inl j2)).2 t (by rw [oiAt_eq ho]; exact ht) hd
    rw [hp j this] at hu; cases hu
  · rcases hI.sub j hl with h | ⟨h, oj, _, _, _, _, _, hoj, _⟩
    · exact hj h
    · exact hj (hpD j (((gl_spec hgl hi).1 j (Array.getElem?_eq_some_iff.1 hoj).1 (.inr h)).2 t (by rw [oiAt_eq ho]; exact ht) hd))

/-- What came early stays as it is. -/
theorem Early.keep {g g' : Gh} {w w' : World} {a a' : Act} {i : Nat} (h : Early P K ops w0 g w a i) (hf : Fr g w g' w') (he : ∀ o d, ops[i]? = some o → o.dst = some d → a'.eval (.tmp d) = a.eval (.tmp d)) : Early P K ops w0 g' w' a' i := by
  obtain ⟨o, d, zs, el, vf, blk, h1, h2, h3, h4, h5, h6, h7⟩ := h
  have hlt := (Array.getElem?_eq_some_iff.1 h5).1
  exact ⟨o, d, zs, el, vf, blk, h1, h2, h3, (he o d h1 h2).trans h4, (hf.keep blk hlt h6).trans h5, fun hn => h6 (hf.own blk hlt hn), h7⟩
theorem put_other {a : Act} {ds : List Deferred} (v : Value) {d : Option Nat} {t : Nat} (h : d ≠ some t) : (({ a with defers := ds } : Act).put d v).eval (.tmp t) = a.eval (.tmp t) := by
  cases d with
  | none => rfl
  | some d =>
    have hne : d ≠ t := fun e => h (by rw [e])
    simp only [Act.put, Act.eval, Array.getD_eq_getD_getElem?, Array.getElem?_setIfInBounds, if_neg hne]

/-- One that floats, and comes late. -/
theorem drawn_late (hgl : glB (ops.toList.map (oiOf P ops)) ac ops.size n = true) {listed : Array Bool} {D A : List Nat} {g : Gh} {st : St} {w : World} {b a : Act} (hI : Inv P K call ops n ac g0 st0 w0 D A listed g st w b a)
    {i : Nat} {o : Oper} (hi : i < ops.size) (ho : ops[i]? = some o) (hD : i ∈ D) (hu : listed.getD i false = false) (hp : ∀ j ∈ (oiAt (ops.toList.map (oiOf P ops)) i).pre, listed.getD j false = true)
    {next : Act → World → Prop} {Q : Exit → Act → World → Prop} (hn : ∀ w' b' a', Inv P K call ops n ac g0 st0 w0 D A (listed.setIfInBounds i true) g st w' b' a' → next a' w') : wpOp P ops Q i next a w := by
  obtain ⟨_, hq, o', d, x, st1, ho', hd, e, hs⟩ := hI.flt i hD hu
  rw [ho] at ho'
  injection ho' with ho'
  subst ho'
  obtain ⟨hqq, _⟩ := oiq ho hq
  obtain ⟨g', w', v, h1, h2, h3, h4, h5, h6, h7, h8, h9⟩ := stepE_quiet hI.kin hI.hr ho hqq (hI.np hgl hi ho hp (hI.dcl i hD)) e
  have htr : TR g st.R st.nR (gt st.T d) v := sameW_ok h4.le h2 h5 (hI.v.slot d) h6 hs
  obtain ⟨k1, k2⟩ := h1 g st hI.hr
  have hdn : d < n := by
    have := (gl_spec hgl hi).2.1
    rw [oiAt_eq ho] at this
    change ltO n o.dst = true at this
    rw [hd] at this; exact blt_t this
  have hbs := hI.v.size
  have hdb : d < b.tmps.size := Nat.lt_of_lt_of_le hdn hbs
  have hda : d < a.tmps.size := by rw [hI.sz]; exact hdb
  have hid : (oiAt (ops.toList.map (oiOf P ops)) i).dst = some d := by rw [oiAt_eq ho]; exact hd
  have hlt : i < listed.size := by rw [hI.ls]; exact hi
  refine h9 next Q (hn w' (b.put (some d) v) _ ?_)
  rw [hd]
  refine ⟨hI.kin, k1, hI.fr.trans k2, hI.ext, ⟨by simpa [Act.put] using hbs, fun t => ?_, hI.v.defers⟩, by simp [Act.put, hI.sz], hI.df, fun t ht ht2 => ?_, fun j hj => ?_, fun j hj hju => ?_, fun j hj => ?_, fun j hj k hk => ?_, by simp [hI.ls], hI.dcl⟩
  · rw [eval_put_tmp v t hdb]
    split
    · rename_i e; subst e; exact htr
    · exact hI.v.slot t
  · rw [eval_put_tmp v t hda, eval_put_tmp v t hdb]
    split
    · rfl
    · rename_i hne
      refine hI.eq t (fun j hj hju => ?_) (fun j hjl hj => ?_)
      · by_cases e : j = i
        · subst e; rw [hid]; exact fun h => hne (by injection h with h; exact h.symm)
        · exact ht j hj (by rw [set_getD hlt, if_neg e]; exact hju)
      · exact ht2 j (by rw [set_getD hlt]; split; · rfl
                        · exact hjl) hj
  · rw [set_getD hlt] at hj
    by_cases e : j = i
    · subst e; exact .inl hD
    · rw [if_neg e] at hj
      rcases hI.sub j hj with h | ⟨h, he⟩
      · exact .inl h
      · by_cases hjD : j ∈ D
        · exact .inl hjD
        · refine .inr ⟨h, he.keep k2 fun oj dj hoj hdj => ?_⟩
          refine put_other (ds := a.defers) v fun hdd => ?_
          injection hdd with hdd
          have hjs := (Array.getElem?_eq_some_iff.1 hoj).1
          refine ((gl_spec hgl hi).1 j hjs (.inr h)).1 (fun h => e h.symm) ?_
          rw [hid, oiAt_eq hoj, hdd]
          exact hdj.symm
  · rw [set_getD hlt] at hju
    by_cases e : j = i
    · rw [if_pos e] at hju; cases hju
    · rw [if_neg e] at hju; exact hI.flt j hj hju
  · rw [set_getD hlt]; split
    · rfl
    · exact hI.anc j hj
  · rw [set_getD hlt] at hj ⊢
    split
    · rfl
    · by_cases e : j = i
      · subst e; exact hp k hk
      · rw [if_neg e] at hj; exact hI.cl j hj k hk

/-- One that comes early. -/
theorem drawn_early (hgl : glB (ops.toList.map (oiOf P ops)) ac ops.size n = true) {listed : Array Bool} {D A : List Nat} {g : Gh} {st : St} {w : World} {b a : Act} (hI : Inv P K call ops n ac g0 st0 w0 D A listed g st w b a)
    {i : Nat} {o : Oper} (hi : i < ops.size) (ho : ops[i]? = some o) (hD : i ∉ D) (hu : listed.getD i false = false) (hp : ∀ j ∈ (oiAt (ops.toList.map (oiOf P ops)) i).pre, listed.getD j false = true)
    (hac : ac = some i) {zs : Array Value} {el : TypeId} {vf : Addr → Value} (hv : AcV P K o zs el vf) {d : Nat} (hd : o.dst = some d)
    {next : Act → World → Prop} {Q : Exit → Act → World → Prop} (hn : ∀ w' a', Inv P K call ops n ac g0 st0 w0 D A (listed.setIfInBounds i true) g st w' b a' → next a' w') : wpOp P ops Q i next a w := by
  have hlt : i < listed.size := by rw [hI.ls]; exact hi
  have hid : (oiAt (ops.toList.map (oiOf P ops)) i).dst = some d := by rw [oiAt_eq ho]; exact hd
  have hdn : d < n := by
    have := (gl_spec hgl hi).2.1
    rw [hid] at this; exact blt_t this
  have hda : d < a.tmps.size := by rw [hI.sz]; exact Nat.lt_of_lt_of_le hdn hI.v.size
  obtain ⟨k1, k2⟩ := hI.hr.push (.cells zs el (0, 0))
  have hne : ∀ j, listed.getD j false = true → j ≠ i := fun j hj e => by subst e; rw [hj] at hu; cases hu
  unfold wpOp
  simp only [ho]
  rw [if_pos (by simp [Region.wanted, hv.gd])]
  refine .inl ?_
  unfold Oper.wp
  rw [hv.run, Oper.upon_value, hd]
  refine hn _ _ ⟨hI.kin, k1, hI.fr.trans k2, hI.ext, hI.v, by simp [Act.put, hI.sz], hI.df, fun t ht ht2 => ?_, fun j hj => ?_, fun j hj hju => ?_, fun j hj => ?_, fun j hj k hk => ?_, by simp [hI.ls], hI.dcl⟩
  · have htd : t ≠ d := fun e => ht2 i (by rw [set_getD hlt, if_pos rfl]) hD (by rw [hid, e])
    rw [eval_put_tmp _ t hda, if_neg htd]
    refine hI.eq t (fun j hj hju => ?_) (fun j hjl hj => ?_)
    · exact ht j hj (by rw [set_getD hlt, if_neg (fun (e : j = i) => hD (e ▸ hj))]; exact hju)
    · exact ht2 j (by rw [set_getD hlt, if_neg (hne j hjl)]; exact hjl) hj
  · rw [set_getD hlt] at hj
    by_cases e : j = i
    · subst e
      refine .inr ⟨hac, o, d, zs, el, vf, w.heap.size, ho, hd, hv, by rw [eval_put_tmp _ d hda, if_pos rfl], push_new _ _, fun hown => ?_, hI.fr.size⟩
      exact absurd (own_lt hI.hr hown) (Nat.lt_irrefl _)
    · rw [if_neg e] at hj
      rcases hI.sub j hj with h | ⟨h, _⟩
      · exact .inl h
      · exact absurd (Option.some.inj (h.symm.trans hac)) e
  · rw [set_getD hlt] at hju
    by_cases e : j = i
    · subst e; exact absurd hj hD
    · rw [if_neg e] at hju; exact hI.flt j hj hju
  · rw [set_getD hlt]; split
    · rfl
    · exact hI.anc j hj
  · rw [set_getD hlt] at hj ⊢
    split
    · rfl
    · by_cases e : j = i
      · subst e; exact hp k hk
      · rw [if_neg e] at hj; exact hI.cl j hj k hk

/-- Within a stage: its chain operation is done, what floats is not yet reckoned. -/
structure Mid (P : Program) (K : Kon) (ops : Array Oper) (n : Nat) (ac : Option Nat) (g0 : Gh) (st0 : St) (w0 : World) (D A : List Nat) (listed : Array Bool) (g : Gh) (st : St) (w : World) (b a : Act) : Prop where
  kin : K.In g
  hr : HR g st w
  fr : Fr g0 w0 g w
  ext : Ext st0.R st0.nR st.R st.nR
  v : FR g st b n
  sz : a.tmps.size = b.tmps.size
  df : a.defers = b.defers
  eq : ∀ t, (∀ i ∈ D, listed.getD i false = false → (oiAt (ops.toList.map (oiOf P ops)) i).dst ≠ some t) → (∀ i, listed.getD i false = true → i ∉ D → (oiAt (ops.toList.map (oiOf P ops)) i).dst ≠ some t) → a.eval (.tmp t) = b.eval (.tmp t)
  sub : ∀ i, listed.getD i false = true → i ∈ D ∨ (ac = some i ∧ Early P K ops w0 g w a i)
  flt : ∀ i ∈ D, listed.getD i false = false → i < ops.size ∧ (oiAt (ops.toList.map (oiOf P ops)) i).q = true
  anc : ∀ i ∈ A, listed.getD i false = true
  cl : ∀ i, listed.getD i false = true → ∀ j ∈ (oiAt (ops.toList.map (oiOf P ops)) i).pre, listed.getD j false = true
  ls : listed.size = ops.size
  dcl : ∀ i ∈ D, ∀ j ∈ (oiAt (ops.toList.map (oiOf P ops)) i).pre, j ∈ D

theorem stage_ok (hgl : glB (ops.toList.map (oiOf P ops)) ac ops.size n = true) {y : Nat} {stF : St} {listed : Array Bool} {D A : List Nat} {s : Stage} {r : List Stage} {g : Gh} {st : St} {w : World} {b a : Act} {l : List Stp}
    (hM : Mid P K ops n ac g0 st0 w0 (s.e :: D) A listed g st w b a) (he : listed.getD s.e false = true)
    (hl : cItms P K ops (s.fl.map .run ++ (s.ck.map .chk ++ itms r)) = some l) (hr : runS call l st = .ok y stF) (hst : stB (ops.toList.map (oiOf P ops)) ac ops.size n D A (s :: r) = true) :
    ∃ g' st' b' l', Inv P K call ops n ac g0 st0 w0 (s.fl ++ s.e :: D) (s.anc ++ A) listed g' st' w b' a ∧ cItms P K ops (itms r) = some l' ∧ runS call l' st' = .ok y stF ∧
      stB (ops.toList.map (oiOf P ops)) ac ops.size n (s.fl ++ s.e :: D) (s.anc ++ A) r = true := by
  simp only [stB, Bool.and_eq_true] at hst
  obtain ⟨⟨⟨⟨⟨⟨⟨⟨⟨⟨c1, c2⟩, _⟩, c4⟩, c5⟩, c6⟩, c7⟩, c8⟩, c10⟩, c11⟩, c9⟩ := hst
  rw [List.all_eq_true] at c6 c11
  have hflo : ∀ i ∈ s.fl, i < ops.size ∧ (oiAt (ops.toList.map (oiOf P ops)) i).q = true ∧ i ∉ D ∧ i ≠ s.e ∧ ac ≠ some i := fun i hm => by
    have := c6 i hm
    simp only [Bool.and_eq_true] at this
    obtain ⟨⟨⟨⟨f1, f2⟩, f3⟩, f4⟩, f5⟩ := this
    exact ⟨blt_t f1, f2, by simpa using f3, fun e => (by rw [e] at f4; rw [Nat.beq_refl] at f4; cases f4), by simpa using f5⟩
  obtain ⟨g3, st3, b3, l3, k1, k2, k3, k4, k5, k6, k7, k8, k9⟩ := floats_ok (n := n) (call := call) s.fl (s.ck.map .chk ++ itms r) g st _ l y stF hM.kin hM.hr hM.v (fun i hm => by
    obtain ⟨f1, f2, _⟩ := hflo i hm
    have hoi : ops[i]? = some ops[i] := Array.getElem?_eq_getElem f1
    refine ⟨_, hoi, (oiq hoi f2).1, ?_⟩
    have := (gl_spec hgl f1).2.1
    rw [oiAt_eq hoi] at this; exact this) hl hr
  obtain ⟨q1, l4, q2, q3⟩ := chks_ok s.ck (itms r) l3 y stF k8 k9
  have hanc : ∀ j ∈ s.anc, listed.getD j false = true := anc_spec (L := fun j => listed.getD j false = true) (hM.cl s.e he) hM.cl s.anc [] (fun i hm => by simp at hm) c5
  have hun : ∀ i ∈ s.fl, listed.getD i false = false := fun i hm => by
    obtain ⟨f1, f2, f3, f4, f5⟩ := hflo i hm
    cases hq : listed.getD i false with
    | false => rfl
    | true =>
      rcases hM.sub i hq with h | ⟨h, _⟩
      · rcases List.mem_cons.1 h with h | h
        · exact absurd h f4
        · exact absurd h f3
      · exact absurd h f5
  refine ⟨g3, st3, b3, l4, ⟨hM.kin.le k2.le, k1, hM.fr.trans k2, hM.ext.trans k4, k3, hM.sz.trans k5.symm, hM.df.trans k6.symm, fun t ht ht2 => ?_, fun j hj => ?_, fun j hj hju => ?_, fun j hj => ?_, hM.cl, hM.ls, fun i hi j hj => ?_⟩, q2, q3, c9⟩
  · rw [k7 t fun i hm oi hoi => ?_]
    · refine hM.eq t (fun j hj hju => ht j (List.mem_append.2 (.inr hj)) hju) fun j hjl hj => ht2 j hjl fun h => ?_
      rcases List.mem_append.1 h with h | h
      · have := hun j h; rw [hjl] at this; cases this
      · exact hj h
    · have := ht i (List.mem_append.2 (.inl hm)) (hun i hm)
      rw [oiAt_eq hoi] at this; exact this
  · rcases hM.sub j hj with h | ⟨h1, h2⟩
    · exact .inl (List.mem_append.2 (.inr h))
    · exact .inr ⟨h1, h2.keep k2 fun _ _ _ _ => rfl⟩
  · have hfq : j < ops.size ∧ (oiAt (ops.toList.map (oiOf P ops)) j).q = true := by
      rcases List.mem_append.1 hj with hj | hj
      · exact ⟨(hflo j hj).1, (hflo j hj).2.1⟩
      · exact hM.flt j hj hju
    refine ⟨hfq.1, hfq.2, ?_⟩
    rw [List.all_eq_true] at c8
    have := c8 j hj
    rw [hfq.2] at this
    simp only [Bool.or_eq_true, Bool.not_true, Bool.false_eq_true, or_false] at this
    rcases this with (h | h) | h
    · have h := beq_t h
      subst h; rw [he] at hju; cases hju
    · exact q1 j (by simpa using h)
    · have hm : j ∈ s.anc ++ A := by simpa using h
      have : listed.getD j false = true := by
        rcases List.mem_append.1 hm with hm | hm
        · exact hanc j hm
        · exact hM.anc j hm
      rw [this] at hju; cases hju
  · rcases List.mem_append.1 hj with hj | hj
    · exact hanc j hj
    · exact hM.anc j hj
  · rcases List.mem_append.1 hi with hi | hi
    · have := c11 i hi
      unfold subB at this
      rw [List.all_eq_true] at this
      simpa using this j hj
    · exact List.mem_append.2 (.inr (hM.dcl i hi j hj))

theorem pre_in {D A : List Nat} {s : Stage} {r : List Stage} (hst : stB (ops.toList.map (oiOf P ops)) ac ops.size n D A (s :: r) = true) : s.e < ops.size ∧ s.e ∉ D ∧ ∀ j ∈ (oiAt (ops.toList.map (oiOf P ops)) s.e).pre, j ∈ D := by
  simp only [stB, Bool.and_eq_true] at hst
  obtain ⟨⟨⟨⟨⟨⟨⟨⟨⟨⟨c1, c2⟩, _⟩, c4⟩, c5⟩, c6⟩, c7⟩, c8⟩, c10⟩, c11⟩, c9⟩ := hst
  refine ⟨blt_t c2, by simpa using c1, fun j hj => ?_⟩
  unfold subB at c10
  rw [List.all_eq_true] at c10
  simpa using c10 j hj

/-- A chain operation, and what floats behind it. -/
theorem drawn_chain (hc : CallV P K call) (hgl : glB (ops.toList.map (oiOf P ops)) ac ops.size n = true) {y : Nat} {stF : St} {listed : Array Bool} {D A : List Nat} {s : Stage} {r : List Stage} {g : Gh} {st : St} {w : World} {b a : Act} {l : List Stp}
    (hI : Inv P K call ops n ac g0 st0 w0 D A listed g st w b a) {o : Oper} (ho : ops[s.e]? = some o) (_hu : listed.getD s.e false = false) (hp : ∀ j ∈ (oiAt (ops.toList.map (oiOf P ops)) s.e).pre, listed.getD j false = true)
    (hl : cItms P K ops (itms (s :: r)) = some l) (hr : runS call l st = .ok y stF) (hst : stB (ops.toList.map (oiOf P ops)) ac ops.size n D A (s :: r) = true)
    {next : Act → World → Prop} {Q : Exit → Act → World → Prop}
    (hn : ∀ g' st' w' b' a' l', Inv P K call ops n ac g0 st0 w0 (s.fl ++ s.e :: D) (s.anc ++ A) (listed.setIfInBounds s.e true) g' st' w' b' a' → cItms P K ops (itms r) = some l' → runS call l' st' = .ok y stF →
      stB (ops.toList.map (oiOf P ops)) ac ops.size n (s.fl ++ s.e :: D) (s.anc ++ A) r = true → next a' w') : wpOp P ops Q s.e next a w := by
  obtain ⟨hi, heD, hpD⟩ := pre_in hst
  have hlt : s.e < listed.size := by rw [hI.ls]; exact hi
  simp only [itms, cItms] at hl
  split at hl
  · rename_i sp rr hs hrr
    injection hl with hl
    subst hl
    simp only [cItm, ho] at hs
    obtain ⟨x, st1, e1, e2⟩ := cStp_cons hs hr
    have hid : (oiAt (ops.toList.map (oiOf P ops)) s.e).dst = o.dst := by rw [oiAt_eq ho]; rfl
    have hdn : ∀ d, o.dst = some d → d < n := fun d hd => by
      have := (gl_spec hgl hi).2.1
      rw [hid, hd] at this; exact blt_t this
    refine stepE_at hc hI.kin hI.hr ho (hI.np hgl hi ho hp hpD) (by rw [hI.df]; exact hI.v.defers) e1 fun g1 w1 v ds' hsp => ?_
    have hf1 := hI.v.put (a := b) (by rw [← hI.df]; exact hsp) hdn
    have hbx : (stPut st1 o.dst x).R = st1.R ∧ (stPut st1 o.dst x).nR = st1.nR := by cases o.dst <;> exact ⟨rfl, rfl⟩
    have hM : Mid P K ops n ac g0 st0 w0 (s.e :: D) A (listed.setIfInBounds s.e true) g1 (stPut st1 o.dst x) w1 (({ b with defers := ds' } : Act).put o.dst v) (({ a with defers := ds' } : Act).put o.dst v) := by
      refine ⟨hI.kin.le hsp.fr.le, stPut_hr hsp.hr _ _, hI.fr.trans hsp.fr, hI.ext.trans (by rw [hbx.1, hbx.2]; exact hsp.ext), hf1, ?_, ?_, fun t ht ht2 => ?_, fun j hj => ?_, fun j hj hju => ?_, fun j hj => ?_, fun j hj k hk => ?_, by simp [hI.ls], fun j hj k hk => ?_⟩
      · cases o.dst <;> simp [Act.put, hI.sz]
      · cases o.dst <;> rfl
      · have old : a.eval (.tmp t) = b.eval (.tmp t) ∨ o.dst = some t := by
          by_cases hd : o.dst = some t
          · exact .inr hd
          · refine .inl (hI.eq t (fun j hj hju => ht j (List.mem_cons.2 (.inr hj)) ?_) fun j hjl hj => ?_)
            · rw [set_getD hlt, if_neg (fun (e : j = s.e) => heD (e ▸ hj))]; exact hju
            · by_cases e : j = s.e
              · rw [e, hid]; exact hd
              · exact ht2 j (by rw [set_getD hlt, if_neg e]; exact hjl) fun h => by
                  rcases List.mem_cons.1 h with h | h
                  · exact e h
                  · exact hj h
        cases hd : o.dst with
        | none =>
          rw [hd] at old
          rcases old with h | h
          · exact h
          · cases h
        | some d =>
          have hdb : d < b.tmps.size := Nat.lt_of_lt_of_le (hdn d hd) hI.v.size
          rw [eval_put_tmp (a := { a with defers := ds' }) v t (show d < a.tmps.size by rw [hI.sz]; exact hdb), eval_put_tmp (a := { b with defers := ds' }) v t hdb]
          split
          · rfl
          · rename_i hne
            rcases old with h | h
            · exact h
            · rw [hd] at h; injection h with h; exact absurd h.symm hne
      · rw [set_getD hlt] at hj
        by_cases e : j = s.e
        · subst e; exact .inl (by simp)
        · rw [if_neg e] at hj
          rcases hI.sub j hj with h | ⟨h1, h2⟩
          · exact .inl (List.mem_cons.2 (.inr h))
          · refine .inr ⟨h1, h2.keep hsp.fr fun oj dj hoj hdj => put_other v fun hdd => ?_⟩
            have hjs := (Array.getElem?_eq_some_iff.1 hoj).1
            refine ((gl_spec hgl hi).1 j hjs (.inr h1)).1 (fun h => e h.symm) ?_
            rw [hid, oiAt_eq hoj, hdd]
            exact hdj.symm
      · rw [set_getD hlt] at hju
        by_cases e : j = s.e
        · rw [if_pos e] at hju; cases hju
        · rw [if_neg e] at hju
          rcases List.mem_cons.1 hj with hj | hj
          · exact absurd hj e
          · exact ⟨(hI.flt j hj hju).1, (hI.flt j hj hju).2.1⟩
      · rw [set_getD hlt]
        split
        · rfl
        · exact hI.anc j hj
      · rw [set_getD hlt] at hj ⊢
        split
        · rfl
        · by_cases e : j = s.e
          · subst e; exact hp k hk
          · rw [if_neg e] at hj; exact hI.cl j hj k hk
      · rcases List.mem_cons.1 hj with rfl | hj
        · exact List.mem_cons.2 (.inr (hpD k hk))
        · exact List.mem_cons.2 (.inr (hI.dcl j hj k hk))
    obtain ⟨g', st', b', l', m1, m2, m3, m4⟩ := stage_ok (call := call) hgl hM (by rw [set_getD hlt, if_pos rfl]) hrr e2 hst
    exact hn g' st' w1 b' _ l' m1 m2 m3 m4
  · cases hl

/-- The evaluator comes to what came early. -/
theorem drawn_adopt (hgl : glB (ops.toList.map (oiOf P ops)) ac ops.size n = true) {y : Nat} {stF : St} {listed : Array Bool} {D A : List Nat} {s : Stage} {r : List Stage} {g : Gh} {st : St} {w : World} {b a : Act} {l : List Stp}
    (hI : Inv P K call ops n ac g0 st0 w0 D A listed g st w b a) (hu : listed.getD s.e false = true)
    (hl : cItms P K ops (itms (s :: r)) = some l) (hr : runS call l st = .ok y stF) (hst : stB (ops.toList.map (oiOf P ops)) ac ops.size n D A (s :: r) = true) :
    ∃ g' st' b' l', Inv P K call ops n ac g0 st0 w0 (s.fl ++ s.e :: D) (s.anc ++ A) listed g' st' w b' a ∧ cItms P K ops (itms r) = some l' ∧ runS call l' st' = .ok y stF ∧
      stB (ops.toList.map (oiOf P ops)) ac ops.size n (s.fl ++ s.e :: D) (s.anc ++ A) r = true := by
  obtain ⟨hi, heD, hpD⟩ := pre_in hst
  rcases hI.sub s.e hu with h | ⟨hac, o, d, zs, el, vf, blk, ho, hd, hv, h4, h5, h6, h7⟩
  · exact absurd h heD
  simp only [itms, cItms] at hl
  split at hl
  · rename_i sp rr hs hrr
    injection hl with hl
    subst hl
    simp only [cItm, ho] at hs
    obtain ⟨x, st1, e1, e2⟩ := cStp_cons hs hr
    have e1 : runCO call (cO P K o) st = .ok x st1 := by
      rcases e1 with ⟨_, e⟩ | ⟨q, _, _, hg, _⟩
      · exact e
      · rw [hv.gd] at hg; cases hg
    obtain ⟨g1, r1, r2, r3, r4, r5, r6, r7⟩ := hv.adopt call g st w x st1 blk hI.kin hI.hr h5 h6 e1
    have hid : (oiAt (ops.toList.map (oiOf P ops)) s.e).dst = some d := by rw [oiAt_eq ho]; exact hd
    have hdn : d < n := by
      have := (gl_spec hgl hi).2.1
      rw [hid] at this; exact blt_t this
    have hdb : d < b.tmps.size := Nat.lt_of_lt_of_le hdn hI.v.size
    have hM : Mid P K ops n ac g0 st0 w0 (s.e :: D) A listed g1 (stPut st1 o.dst x) w (b.put (some d) (vf ⟨blk, 0, none⟩)) a := by
      rw [hd]
      refine ⟨hI.kin.le r2, stPut_hr r1 (some d) x, ⟨hI.fr.os, hI.fr.tape, hI.fr.output, hI.fr.size, hI.fr.le.trans r2, hI.fr.keep, fun c hc ho => ?_⟩, hI.ext.trans r7, ⟨by have := hI.v.size; simpa [Act.put] using this, fun t => ?_, ?_⟩, by simp [Act.put, hI.sz], hI.df, fun t ht ht2 => ?_, fun j hj => ?_, fun j hj hju => ?_, hI.anc, hI.cl, hI.ls, fun j hj k hk => ?_⟩
      · rcases r3 c ho with h | h
        · exact hI.fr.own c hc h
        · subst h; omega
      · rw [eval_put_tmp _ t hdb]
        show TR g1 st1.R st1.nR (gt (up1 st1.T d x) t) _
        rw [gt_up1 _ _ _ r4.lt]
        split
        · exact r4
        · rw [r5]; exact (hI.v.slot t).mono r2 r7
      · show DR g1 st1.R st1.nR st1.D b.defers
        rw [r6]; exact hI.v.defers.mono r2 r7
      · rw [eval_put_tmp _ t hdb]
        split
        · rename_i e; subst e; exact h4
        · rename_i hne
          refine hI.eq t (fun j hj hju => ht j (List.mem_cons.2 (.inr hj)) hju) fun j hjl hj => ?_
          by_cases e : j = s.e
          · rw [e, hid]; exact fun h => hne (Option.some.inj h).symm
          · exact ht2 j hjl fun h => by
              rcases List.mem_cons.1 h with h | h
              · exact e h
              · exact hj h
      · rcases hI.sub j hj with h | ⟨h, _⟩
        · exact .inl (List.mem_cons.2 (.inr h))
        · exact .inl (List.mem_cons.2 (.inl (Option.some.inj (h.symm.trans hac))))
      · rcases List.mem_cons.1 hj with hj | hj
        · subst hj; rw [hu] at hju; cases hju
        · exact ⟨(hI.flt j hj hju).1, (hI.flt j hj hju).2.1⟩
      · rcases List.mem_cons.1 hj with rfl | hj
        · exact List.mem_cons.2 (.inr (hpD k hk))
        · exact List.mem_cons.2 (.inr (hI.dcl j hj k hk))
    exact stage_ok (call := call) hgl hM hu hrr e2 hst
  · cases hl

theorem drawn_go (hc : CallV P K call) {Q : Exit → Act → World → Prop} {y : Nat} {stF : St} (hgl : glB (ops.toList.map (oiOf P ops)) ac ops.size n = true) (hac : ∀ i, ac = some i → ∃ o d zs el vf, ops[i]? = some o ∧ o.dst = some d ∧ AcV P K o zs el vf)
    (hQ : ∀ g w a, K.In g → HR g stF w → Fr g0 w0 g w → Ext st0.R st0.nR stF.R stF.nR → FR g stF a n → Q .normal a w) :
    ∀ (fuel : Nat) (rest : List Stage) (listed : Array Bool) (D A : List Nat) (g : Gh) (st : St) (w : World) (b a : Act) (l : List Stp), Inv P K call ops n ac g0 st0 w0 D A listed g st w b a → cnt listed ≤ fuel →
      cItms P K ops (itms rest) = some l → runS call l st = .ok y stF → stB (ops.toList.map (oiOf P ops)) ac ops.size n D A rest = true → wpAny P .any ops Q fuel listed a w := by
  intro fuel
  induction fuel with
  | zero =>
    intro rest
    induction rest with
    | nil =>
      intro listed D A g st w b a l hI hcn hl hr hst
      have hall : ∀ i, i < ops.size → listed.getD i false = true := fun i hi => cnt_zero (Nat.le_zero.1 hcn) (by rw [hI.ls]; exact hi)
      refine ⟨?_, drawn_end hQ hI hall hl hr hst⟩
      refine List.eq_nil_iff_forall_not_mem.2 fun i hi => ?_
      obtain ⟨h1, _⟩ := mem_ready.1 hi
      obtain ⟨h2, h3⟩ := not_listed h1
      rw [hall i (by rw [← hI.ls]; exact h3)] at h2; cases h2
    | cons s r ihr =>
      intro listed D A g st w b a l hI hcn hl hr hst
      have he : listed.getD s.e false = true := cnt_zero (Nat.le_zero.1 hcn) (by rw [hI.ls]; exact (pre_in hst).1)
      obtain ⟨g', st', b', l', m1, m2, m3, m4⟩ := drawn_adopt hgl hI he hl hr hst
      exact ihr _ _ _ g' st' w b' a l' m1 hcn m2 m3 m4
  | succ fuel ih =>
    intro rest
    induction rest with
    | nil =>
      intro listed D A g st w b a l hI hcn hl hr hst
      refine ⟨fun h0 => drawn_end hQ hI (ready_none hI.ls hgl h0) hl hr hst, fun i hi => ?_⟩
      obtain ⟨h1, o, ho, hall⟩ := mem_ready.1 hi
      obtain ⟨h2, h3⟩ := not_listed h1
      have hio : i < ops.size := by rw [← hI.ls]; exact h3
      have hp : ∀ j ∈ (oiAt (ops.toList.map (oiOf P ops)) i).pre, listed.getD j false = true := fun j hj => by
        rw [oiAt_eq ho] at hj
        obtain ⟨e, he, hb, rfl⟩ := pre_mem.1 hj
        exact hall e he hb
      have hcn' : cnt (listed.setIfInBounds i true) ≤ fuel := by have := cnt_set h1; omega
      have hD : i ∈ D := by
        have hst' := hst
        simp only [stB] at hst'
        rw [List.all_eq_true] at hst'
        simpa using hst' i (List.mem_range.2 hio)
      exact drawn_late hgl hI hio ho hD h2 hp fun w' b' a' hI' => ih [] _ D A g st w' b' a' l hI' hcn' hl hr hst
    | cons s r ihr =>
      intro listed D A g st w b a l hI hcn hl hr hst
      by_cases he : listed.getD s.e false = true
      · obtain ⟨g', st', b', l', m1, m2, m3, m4⟩ := drawn_adopt hgl hI he hl hr hst
        exact ihr _ _ _ g' st' w b' a l' m1 hcn m2 m3 m4
      · refine ⟨fun h0 => absurd (ready_none hI.ls hgl h0 s.e (pre_in hst).1) he, fun i hi => ?_⟩
        obtain ⟨h1, o, ho, hall⟩ := mem_ready.1 hi
        obtain ⟨h2, h3⟩ := not_listed h1
        have hio : i < ops.size := by rw [← hI.ls]; exact h3
        have hp : ∀ j ∈ (oiAt (ops.toList.map (oiOf P ops)) i).pre, listed.getD j false = true := fun j hj => by
          rw [oiAt_eq ho] at hj
          obtain ⟨e, he, hb, rfl⟩ := pre_mem.1 hj
          exact hall e he hb
        have hcn' : cnt (listed.setIfInBounds i true) ≤ fuel := by have := cnt_set h1; omega
        by_cases hD : i ∈ D
        · exact drawn_late hgl hI hio ho hD h2 hp fun w' b' a' hI' => ih _ _ D A g st w' b' a' l hI' hcn' hl hr hst
        · by_cases hie : i = s.e
          · subst hie
            exact drawn_chain hc hgl hI ho h2 hp hl hr hst fun g' st' w' b' a' l' hI' hl' hr' hst' => ih r _ _ _ g' st' w' b' a' l' hI' hcn' hl' hr' hst'
          · have hai : ac = some i := by
              have hst' := hst
              simp only [stB, Bool.and_eq_true] at hst'
              obtain ⟨⟨⟨⟨⟨⟨⟨⟨⟨⟨_, _⟩, c3⟩, _⟩, _⟩, _⟩, _⟩, _⟩, _⟩, _⟩, _⟩ := hst'
              rw [List.all_eq_true] at c3
              have := c3 i (List.mem_range.2 hio)
              simp only [Bool.or_eq_true] at this
              rcases this with ((h | h) | h) | h
              · exact absurd (by simpa using h) hD
              · exact absurd (beq_t h) hie
              · simpa using h
              · exfalso
                obtain ⟨j, hj, hq⟩ := List.any_eq_true.1 h
                simp only [Bool.and_eq_true, Bool.or_eq_true] at hq
                rcases hq.2 with hq2 | hq2
                · exact he (beq_t hq2 ▸ hp j hj)
                · rcases hI.sub j (hp j hj) with h | ⟨h, _⟩
                  · simp [h] at hq
                  · simp [h] at hq2
            obtain ⟨o', d, zs, el, vf, ho', hd, hv⟩ := hac i hai
            rw [ho] at ho'
            injection ho' with ho'
            subst ho'
            exact drawn_early hgl hI hio ho hD h2 hp hai hv hd fun w' a' hI' => ih _ _ D A g st w' b a' l hI' hcn' hl hr hst

end
end Ev
end Go.Proofs.YtgdibfnpkcdiiaaGreatDoor
