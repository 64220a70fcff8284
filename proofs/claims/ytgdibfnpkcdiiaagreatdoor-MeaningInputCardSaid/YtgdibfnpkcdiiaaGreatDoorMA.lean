/- Joint text: MSpec, MOk, MMem, MUpd, MUpe, MLaw. By an AI agent. -/
import Derived.Test.YtgdibfnpkcdiiaaGreatDoorJA
import Derived.Deep.AppendLies
/- What a program of three does, step by step, as plain data. By an AI agent. -/
namespace Go.Proofs.YtgdibfnpkcdiiaaGreatDoor

/-- A function under way. -/
structure FrM where
  f : Nat
  i : Nat
  vars : List Int
  into : Nat
/-- A run: the frames beneath, the last one; what was seen. -/
structure MS where
  inp : List Int
  arr : List (List Int)
  base : List FrM
  top : FrM
  evs : List (Nat × Int)
  ended : Bool
  steps : Nat
variable (D : Nat → Int → Int → Int)
def MS.see (s : MS) (k : Nat) (n : Int) : MS := { s with evs := s.evs ++ [(k, n)], ended := s.ended || (k == 3 || k == 4) }
def MS.v (s : MS) (k : Int) : Int := s.top.vars.getD k.toNat 0
def MS.put (s : MS) (k : Int) (n : Int) : MS := { s with top := { s.top with vars := s.top.vars.set k.toNat n } }
def MS.cell (s : MS) (a : Int) (i : Int) : Option Int := if 0 ≤ i then ((s.arr[a.toNat]?).getD [])[i.toNat]? else none
def MS.store (s : MS) (a : Int) (i : Int) (n : Int) : MS := { s with arr := s.arr.set a.toNat (((s.arr[a.toNat]?).getD []).set i.toNat n) }
def MS.jump (s : MS) (to : Int) : MS := { s with top := { s.top with i := to.toNat } }
def varsM (p : PrW) (f : Int) : Int := ((p.fns[f.toNat]?).map (fun g : FnP => g.vars)).getD 0
def argsM (vars : Int) (args : List Int) : List Int := (args ++ List.replicate vars.toNat 0).take vars.toNat
def MS.enter (p : PrW) (s : MS) (f into : Int) (args : List Int) : MS :=
  { s with base := s.base ++ [s.top], top := ⟨f.toNat, 0, argsM (varsM p f) args, into.toNat⟩ }
def MS.ret (s : MS) (n : Int) : MS := match s.base.getLast? with
  | none => s.see 3 n
  | some g => { s with base := s.base.dropLast, top := { g with vars := g.vars.set s.top.into n } }
def MS.read (s : MS) (v : Int) : MS := (({ s with inp := s.inp.tail } : MS).put v (s.inp.headD 0)).see 1 (s.inp.headD 0)
def doesM (p : PrW) (x : In) (s : MS) : MS :=
  if x.op = 1 then s.put x.v x.n
  else if x.op = 2 then s.put x.v (s.v x.a)
  else if x.op = 3 then s.put x.v (D x.bin (s.v x.a) (s.v x.b))
  else if x.op = 4 then (match s.cell x.arr (s.v x.a) with | some n => s.put x.v n | none => s.see 4 1)
  else if x.op = 5 then (match s.cell x.arr (s.v x.a) with | some _ => s.store x.arr (s.v x.a) (s.v x.b) | none => s.see 4 1)
  else if x.op = 6 then (match s.cell x.arr (s.v x.a) with | some _ => s | none => s.see 4 1)
  else if x.op = 7 then (if s.v x.a = 0 then s.see 4 2 else s)
  else if x.op = 8 then s.read x.v
  else if x.op = 9 then s.see 2 (s.v x.a)
  else if x.op = 10 then s.see 3 (s.v x.a)
  else if x.op = 11 then s.enter p x.f x.v (x.args.map s.v)
  else if x.op = 12 then s.ret (s.v x.a)
  else if x.op = 13 then s.jump x.to
  else (if s.v x.a = 0 then s.jump x.to else s)
def MS.tick (s : MS) : MS := { s with steps := s.steps + 1, top := { s.top with i := s.top.i + 1 } }
def atM (p : PrW) (f i : Nat) : Option In := (p.fns[f]?).bind fun g => g.code[i]?
def stepM (p : PrW) (s : MS) : MS := if s.ended then s else match atM p s.top.f s.top.i with
  | none => s
  | some x => doesM D p x s.tick
def runM (p : PrW) : Nat → MS → MS
  | 0, s => s
  | n + 1, s => runM p n (stepM D p s)
/-- How many steps are done. -/
def cntM (p : PrW) : Nat → MS → Nat
  | 0, _ => 0
  | n + 1, s => if s.ended then 0 else 1 + cntM p n (stepM D p s)
def newM (p : PrW) (inp : List Int) : MS :=
  ⟨inp, p.arrays.map (fun n => List.replicate n.toNat 0), [], ⟨p.main.toNat, 0, List.replicate (varsM p p.main).toNat 0, 0⟩, [], false, 0⟩
theorem step_ended {p : PrW} {s : MS} (h : s.ended = true) : stepM D p s = s := by simp [stepM, h]
theorem run_ended {p : PrW} : ∀ (n : Nat) {s : MS}, s.ended = true → runM D p n s = s
  | 0, _, _ => rfl
  | n + 1, s, h => by rw [runM, step_ended D h]; exact run_ended n h
theorem cnt_ended {p : PrW} (n : Nat) {s : MS} (h : s.ended = true) : cntM D p n s = 0 := by cases n <;> simp [cntM, h]
theorem run_add {p : PrW} : ∀ (a b : Nat) (s : MS), runM D p (a + b) s = runM D p b (runM D p a s)
  | 0, b, s => by simp [runM]
  | a + 1, b, s => by rw [show a + 1 + b = (a + b) + 1 by omega]; exact run_add a b _
theorem cnt_add {p : PrW} : ∀ (a b : Nat) (s : MS), cntM D p (a + b) s = cntM D p a s + cntM D p b (runM D p a s)
  | 0, b, s => by simp [cntM, runM]
  | a + 1, b, s => by
    rw [show a + 1 + b = (a + b) + 1 by omega]
    simp only [cntM, runM]
    cases h : s.ended with
    | true => simp [step_ended D h, run_ended D a h, cnt_ended D b h]
    | false => have := cnt_add (p := p) a b (stepM D p s); simp only [Bool.false_eq_true, if_false]; omega
theorem cnt_le {p : PrW} : ∀ (n : Nat) (s : MS), cntM D p n s ≤ n
  | 0, s => by simp [cntM]
  | n + 1, s => by
    have := cnt_le (p := p) n (stepM D p s)
    simp only [cntM]; split <;> omega
theorem cnt_less {p : PrW} : ∀ (n : Nat) (s : MS), cntM D p n s < n → (runM D p n s).ended = true
  | 0, s, h => by simp at h
  | n + 1, s, h => by
    simp only [cntM] at h
    cases he : s.ended with
    | true => rw [run_ended D (n + 1) he]; exact he
    | false =>
      simp only [he, Bool.false_eq_true, if_false] at h
      exact cnt_less n _ (by omega)
/-- So many steps as are done are enough. -/
theorem run_cnt {p : PrW} : ∀ (n : Nat) (s : MS), runM D p (cntM D p n s) s = runM D p n s
  | 0, s => rfl
  | n + 1, s => by
    cases he : s.ended with
    | true => rw [cnt_ended D (n + 1) he, run_ended D (n + 1) he]; rfl
    | false =>
      have e : cntM D p (n + 1) s = cntM D p n (stepM D p s) + 1 := by simp only [cntM, he, Bool.false_eq_true, if_false]; omega
      rw [e]
      exact run_cnt n _
theorem cnt_cnt {p : PrW} : ∀ (n : Nat) (s : MS), cntM D p (cntM D p n s) s = cntM D p n s
  | 0, s => rfl
  | n + 1, s => by
    cases he : s.ended with
    | true => rw [cnt_ended D (n + 1) he]; rfl
    | false =>
      have e : cntM D p (n + 1) s = cntM D p n (stepM D p s) + 1 := by simp only [cntM, he, Bool.false_eq_true, if_false]; omega
      rw [e]
      simp only [cntM, he, Bool.false_eq_true, if_false]
      rw [cnt_cnt n]; omega
end Go.Proofs.YtgdibfnpkcdiiaaGreatDoor

/- A run of a right program stays within its bounds. By an AI agent. -/
namespace Go.Proofs.YtgdibfnpkcdiiaaGreatDoor

structure OneOk (p : PrW) (fn : FnP) (x : In) : Prop where
  op : 1 ≤ x.op ∧ x.op ≤ 14
  v : hasV x.op = true → 0 ≤ x.v ∧ x.v < fn.vars
  a : hasA x.op = true → 0 ≤ x.a ∧ x.a < fn.vars
  b : hasB x.op = true → 0 ≤ x.b ∧ x.b < fn.vars
  f : hasG x.op = true → 0 ≤ x.f ∧ x.f < p.fns.length
  arr : hasR x.op = true → 0 ≤ x.arr ∧ x.arr < p.arrays.length
  to : hasT x.op = true → 0 ≤ x.to ∧ x.to < fn.code.length
  bin : hasO x.op = true → x.bin ∈ binsW
  many : (x.args.length : Int) = manyW p x
  args : ∀ v ∈ x.args, 0 ≤ v ∧ v < fn.vars
theorem fits_of {h : Bool} {n m : Int} (k : fitsW h n m = true) : h = true → 0 ≤ n ∧ n < m := by
  intro e; subst e; simp [fitsW] at k; exact k
theorem one_ok {p : PrW} {fn : FnP} {x : In} (h : oneW p fn x = true) : OneOk p fn x := by
  simp only [oneW, Bool.and_eq_true, decide_eq_true_eq, List.all_eq_true] at h
  obtain ⟨⟨⟨⟨⟨⟨⟨h1, h2⟩, h3⟩, h4⟩, h5⟩, h6⟩, h7⟩, ⟨⟨_, h9⟩, h10⟩, h11⟩ := h
  exact ⟨h1, fits_of h2, fits_of h3, fits_of h4, fits_of h5, fits_of h6, fits_of h7, fun e => by rw [e] at h9; simpa using h9, h10, h11⟩
structure FnGood (p : PrW) (fn : FnP) : Prop where
  params : 0 ≤ fn.params ∧ fn.params ≤ fn.vars ∧ fn.vars ≤ 200
  code : ∀ x ∈ fn.code, OneOk p fn x
  last : ∀ i x, fn.code[i]? = some x → x.op ≠ 12 → i + 1 < fn.code.length
  pos : 0 < fn.code.length
structure PrGood (p : PrW) : Prop where
  fns : ∀ fn ∈ p.fns, FnGood p fn
  arrays : ∀ n ∈ p.arrays, 1 ≤ n ∧ n ≤ 4096
  main : 0 ≤ p.main ∧ p.main < p.fns.length
theorem right_good {p : PrW} (h : rightW p = true) : PrGood p := by
  simp only [rightW, mainW', Bool.and_eq_true, decide_eq_true_eq, List.all_eq_true] at h
  obtain ⟨⟨⟨h1, h2, h3⟩, h4⟩, h5⟩ := h
  refine ⟨fun fn hfn => ?_, h4, h2⟩
  have h6 := h5 fn hfn
  simp only [fnW, endsW, Bool.and_eq_true, decide_eq_true_eq, List.all_eq_true] at h6
  obtain ⟨⟨h7, h8⟩, h9⟩ := h6
  refine ⟨⟨h7.1, h7.2.2.1, h7.2.2.2.1⟩, fun x hx => one_ok (h9 x hx), fun i x hx ho => ?_, ?_⟩
  · have hi := (List.getElem?_eq_some_iff.1 hx).1
    rcases Nat.lt_or_ge (i + 1) fn.code.length with hlt | hge
    · exact hlt
    · exfalso
      have e : fn.code.getLast? = some x := by rw [List.getLast?_eq_getElem?, show fn.code.length - 1 = i by omega, hx]
      rw [e] at h8
      simp at h8
      exact ho h8
  · cases hc : fn.code with
    | nil => rw [hc] at h8; simp at h8
    | cons => simp
theorem at_spec {p : PrW} {f i : Nat} {x : In} (h : atM p f i = some x) : ∃ fn, p.fns[f]? = some fn ∧ fn.code[i]? = some x := by
  unfold atM at h
  cases hf : p.fns[f]? with
  | none => simp [hf] at h
  | some fn => exact ⟨fn, rfl, by simpa [hf] using h⟩
theorem at_some {p : PrW} {f i : Nat} {fn : FnP} (h : p.fns[f]? = some fn) (hi : i < fn.code.length) : (atM p f i).isSome = true := by
  simp [atM, h, hi]
theorem vars_at {p : PrW} {f : Nat} {fn : FnP} (h : p.fns[f]? = some fn) : varsM p (f : Int) = fn.vars := by simp [varsM, h]
structure FrOk (p : PrW) (r : FrM) : Prop where
  f : r.f < p.fns.length
  vars : (r.vars.length : Int) = varsM p r.f
  ints : ∀ n ∈ r.vars, I64 n
/-- Each frame's 'into' is a variable of the frame beneath. -/
def IntoOk : List FrM → Prop
  | g :: h :: l => h.into < g.vars.length ∧ IntoOk (h :: l)
  | _ => True
structure MOk (p : PrW) (s : MS) : Prop where
  inp : ∀ n ∈ s.inp, I64 n
  arr : s.arr.map (·.length) = p.arrays.map (·.toNat)
  arri : ∀ l ∈ s.arr, ∀ n ∈ l, I64 n
  fr : ∀ g ∈ s.base ++ [s.top], FrOk p g
  bi : ∀ g ∈ s.base, (atM p g.f g.i).isSome = true
  ti : s.ended = false → (atM p s.top.f s.top.i).isSome = true
  into : IntoOk (s.base ++ [s.top])
  evs : ∀ e ∈ s.evs, I64 e.2
  many : s.evs.length ≤ s.steps ∧ s.base.length ≤ s.steps
theorem into_change {g g' : FrM} (hv : g'.vars.length = g.vars.length) (hi : g'.into = g.into) : ∀ (l : List FrM), IntoOk (l ++ [g]) → IntoOk (l ++ [g'])
  | [], _ => trivial
  | [a], h => by
    simp only [List.cons_append, List.nil_append, IntoOk] at h ⊢
    rw [hi]; exact h
  | a :: b :: l, h => by
    simp only [List.cons_append, IntoOk] at h ⊢
    exact ⟨h.1, into_change hv hi (b :: l) h.2⟩
theorem into_more {g h : FrM} (hi : h.into < g.vars.length) : ∀ (l : List FrM), IntoOk (l ++ [g]) → IntoOk ((l ++ [g]) ++ [h])
  | [], _ => ⟨hi, trivial⟩
  | [a], k => by
    simp only [List.cons_append, List.nil_append, IntoOk] at k ⊢
    exact ⟨k.1, hi, trivial⟩
  | a :: b :: l, k => by
    simp only [List.cons_append, IntoOk] at k ⊢
    exact ⟨k.1, into_more hi (b :: l) k.2⟩
theorem into_less {g h : FrM} : ∀ (l : List FrM), IntoOk ((l ++ [g]) ++ [h]) → IntoOk (l ++ [g]) ∧ h.into < g.vars.length
  | [], k => ⟨trivial, k.1⟩
  | [a], k => by
    simp only [List.cons_append, List.nil_append, IntoOk] at k ⊢
    exact ⟨⟨k.1, trivial⟩, k.2.1⟩
  | a :: b :: l, k => by
    simp only [List.cons_append, IntoOk] at k ⊢
    exact ⟨⟨k.1, (into_less (b :: l) k.2).1⟩, (into_less (b :: l) k.2).2⟩
theorem i64_zero : I64 0 := ⟨by omega, by omega⟩
theorem getD_i64 {l : List Int} (h : ∀ n ∈ l, I64 n) (k : Nat) : I64 (l.getD k 0) := by
  rw [List.getD_eq_getElem?_getD]
  cases hk : l[k]? with
  | none => exact i64_zero
  | some n => exact h n (List.mem_of_getElem? hk)
theorem set_i64 {l : List Int} (h : ∀ n ∈ l, I64 n) (k : Nat) {v : Int} (hv : I64 v) : ∀ n ∈ l.set k v, I64 n := fun n hn => by
  rcases List.mem_or_eq_of_mem_set hn with hn | rfl
  · exact h n hn
  · exact hv
section
variable {p : PrW} {s : MS}
theorem MOk.topOk (h : MOk p s) : FrOk p s.top := h.fr _ (by simp)
theorem MOk.v (h : MOk p s) (k : Int) : I64 (s.v k) := getD_i64 h.topOk.ints _
/-- A change of the last frame alone that keeps its function. -/
theorem MOk.retop (h : MOk p s) {t : FrM} (ht : FrOk p t) (hl : t.vars.length = s.top.vars.length) (hin : t.into = s.top.into) (hi : s.ended = false → (atM p t.f t.i).isSome = true) : MOk p { s with top := t } :=
  ⟨h.inp, h.arr, h.arri, fun g hg => by
    rcases List.mem_append.1 hg with hg | hg
    · exact h.fr g (List.mem_append_left _ hg)
    · rw [List.mem_singleton] at hg; exact hg ▸ ht, h.bi, hi, into_change hl hin _ h.into, h.evs, h.many⟩
theorem MOk.put (h : MOk p s) (k : Int) {n : Int} (hn : I64 n) : MOk p (s.put k n) :=
  h.retop ⟨h.topOk.f, by simpa using h.topOk.vars, set_i64 h.topOk.ints _ hn⟩ (by simp) rfl h.ti
theorem MOk.jump (h : MOk p s) {to : Int} (ht : (atM p s.top.f to.toNat).isSome = true) : MOk p (s.jump to) :=
  h.retop ⟨h.topOk.f, h.topOk.vars, h.topOk.ints⟩ rfl rfl fun _ => ht
end
/-- As many events and frames as steps, one less: there is room. -/
structure MRoom (s : MS) : Prop where
  evs : s.evs.length < s.steps
  base : s.base.length < s.steps
section
variable {p : PrW} {s : MS}
theorem MOk.see (h : MOk p s) (hr : MRoom s) (k : Nat) {n : Int} (hn : I64 n) : MOk p (s.see k n) :=
  ⟨h.inp, h.arr, h.arri, h.fr, h.bi, fun e => h.ti (by
    have e : (s.ended || (k == 3 || k == 4)) = false := e
    rw [Bool.or_eq_false_iff] at e; exact e.1), h.into, fun e he => by
    rcases List.mem_append.1 he with he | he
    · exact h.evs e he
    · rw [List.mem_singleton] at he; exact he ▸ hn, by have := hr.evs; have := h.many; simp only [MS.see, List.length_append, List.length_cons, List.length_nil]; omega⟩
theorem MOk.store (h : MOk p s) (a i : Int) {n : Int} (hn : I64 n) : MOk p (s.store a i n) := by
  refine ⟨h.inp, ?_, ?_, h.fr, h.bi, h.ti, h.into, h.evs, h.many⟩
  · have : (s.arr.set a.toNat (((s.arr[a.toNat]?).getD []).set i.toNat n)).map (·.length) = s.arr.map (·.length) := by
      apply List.ext_getElem?
      intro k
      rw [List.getElem?_map, List.getElem?_map, List.getElem?_set]
      split
      · rename_i e; subst e
        split
        · rename_i hk; simp [hk]
        · rename_i hk; simp [List.getElem?_eq_none (show s.arr.length ≤ a.toNat by omega)]
      · rfl
    exact this.trans h.arr
  · intro l hl
    rcases List.mem_or_eq_of_mem_set hl with hl | rfl
    · exact h.arri l hl
    · apply set_i64 _ _ hn
      cases hk : s.arr[a.toNat]? with
      | none => intro n hn; simp at hn
      | some l => exact h.arri l (List.mem_of_getElem? hk)
theorem MOk.cell_i64 (h : MOk p s) {a i n : Int} (e : s.cell a i = some n) : I64 n := by
  unfold MS.cell at e
  split at e
  · cases hk : s.arr[a.toNat]? with
    | none => rw [hk] at e; simp at e
    | some l => rw [hk] at e; exact h.arri l (List.mem_of_getElem? hk) n (List.mem_of_getElem? e)
  · cases e
theorem args_len (v : Int) (args : List Int) : (argsM v args).length = v.toNat := by simp [argsM]
theorem MOk.enter (h : MOk p s) (g : PrGood p) (hr : MRoom s) {f into : Int} {args : List Int} (hf : 0 ≤ f ∧ f < p.fns.length) (hin : 0 ≤ into ∧ into < s.top.vars.length) (ha : ∀ n ∈ args, I64 n) (hi : (atM p s.top.f s.top.i).isSome = true) : MOk p (s.enter p f into args) := by
  have hfl : f.toNat < p.fns.length := by omega
  have hfn : p.fns[f.toNat]? = some p.fns[f.toNat] := List.getElem?_eq_getElem hfl
  have hg := g.fns _ (List.getElem_mem hfl)
  refine ⟨h.inp, h.arr, h.arri, fun q hq => ?_, fun q hq => ?_, fun _ => at_some hfn hg.pos, into_more (by show into.toNat < _; omega) _ h.into, h.evs, ?_⟩
  · rcases List.mem_append.1 hq with hq | hq
    · exact h.fr q hq
    · rw [List.mem_singleton] at hq; subst hq
      have e : varsM p f = varsM p ((f.toNat : Nat) : Int) := by rw [Int.toNat_of_nonneg hf.1]
      refine ⟨hfl, ?_, fun n hn => ?_⟩
      · show ((argsM (varsM p f) args).length : Int) = varsM p ((f.toNat : Nat) : Int)
        rw [args_len, e, vars_at hfn]
        have := hg.params; omega
      · have := List.mem_of_mem_take hn
        rcases List.mem_append.1 this with hn | hn
        · exact ha n hn
        · rw [List.eq_of_mem_replicate hn]; exact i64_zero
  · rcases List.mem_append.1 hq with hq | hq
    · exact h.bi q hq
    · rw [List.mem_singleton] at hq; subst hq; exact hi
  · have := hr.base; have := h.many
    simp only [MS.enter, List.length_append, List.length_cons, List.length_nil]; omega
theorem MOk.ret (h : MOk p s) (hr : MRoom s) {n : Int} (hn : I64 n) : MOk p (s.ret n) := by
  unfold MS.ret
  cases hb : s.base.getLast? with
  | none => exact h.see hr 3 hn
  | some g =>
    obtain ⟨l, hl⟩ : ∃ l, s.base = l ++ [g] := List.getLast?_eq_some_iff.1 hb
    have hgo := h.fr g (by rw [hl]; simp)
    have hin := into_less l (hl ▸ h.into)
    refine ⟨h.inp, h.arr, h.arri, fun q hq => ?_, fun q hq => ?_, fun _ => ?_, ?_, h.evs, ?_⟩
    · simp only [hl, List.dropLast_concat] at hq
      rcases List.mem_append.1 hq with hq | hq
      · exact h.fr q (by rw [hl]; simp [hq])
      · rw [List.mem_singleton] at hq; subst hq
        exact ⟨hgo.f, by simpa using hgo.vars, set_i64 hgo.ints _ hn⟩
    · simp only [hl, List.dropLast_concat] at hq
      exact h.bi q (by rw [hl]; simp [hq])
    · exact h.bi g (by rw [hl]; simp)
    · simp only [hl, List.dropLast_concat]
      exact into_change (g := g) (g' := { g with vars := g.vars.set s.top.into n }) (by simp) rfl _ hin.1
    · have := h.many; simp only [hl, List.dropLast_concat, List.length_append, List.length_cons, List.length_nil] at this ⊢; omega
theorem MOk.read (h : MOk p s) (hr : MRoom s) (v : Int) : MOk p (s.read v) := by
  have hh : I64 (s.inp.headD 0) := by
    cases hi : s.inp with
    | nil => exact i64_zero
    | cons a l => exact h.inp a (by rw [hi]; simp)
  have h1 : MOk p { s with inp := s.inp.tail } := ⟨fun n hn => h.inp n (List.mem_of_mem_tail hn), h.arr, h.arri, h.fr, h.bi, h.ti, h.into, h.evs, h.many⟩
  exact (h1.put v hh).see ⟨hr.evs, hr.base⟩ 1 hh
end
/-- What stands at a place of a run that has not ended, and what is behind it. -/
theorem MOk.inst {p : PrW} {s : MS} (h : MOk p s) (g : PrGood p) (he : s.ended = false) : ∃ fn x, p.fns[s.top.f]? = some fn ∧ fn.code[s.top.i]? = some x ∧ atM p s.top.f s.top.i = some x ∧ OneOk p fn x ∧ FnGood p fn ∧ (s.top.vars.length : Int) = fn.vars ∧ (x.op ≠ 12 → (atM p s.top.f (s.top.i + 1)).isSome = true) := by
  have := h.ti he
  obtain ⟨x, hx⟩ := Option.isSome_iff_exists.1 this
  obtain ⟨fn, hf, hc⟩ := at_spec hx
  have hg := g.fns fn (List.mem_of_getElem? hf)
  refine ⟨fn, x, hf, hc, hx, hg.code x (List.mem_of_getElem? hc), hg, ?_, fun ho => at_some hf (hg.last _ x hc ho)⟩
  rw [h.topOk.vars, vars_at hf]
variable (D : Nat → Int → Int → Int)
section
variable {p : PrW} {x : In} {s : MS}
theorem does_1 (e : x.op = 1) : doesM D p x s = s.put x.v x.n := by unfold doesM; rw [e]; rfl
theorem does_2 (e : x.op = 2) : doesM D p x s = s.put x.v (s.v x.a) := by unfold doesM; rw [e]; rfl
theorem does_3 (e : x.op = 3) : doesM D p x s = s.put x.v (D x.bin (s.v x.a) (s.v x.b)) := by unfold doesM; rw [e]; rfl
theorem does_4 (e : x.op = 4) : doesM D p x s = (match s.cell x.arr (s.v x.a) with | some n => s.put x.v n | none => s.see 4 1) := by unfold doesM; rw [e]; rfl
theorem does_5 (e : x.op = 5) : doesM D p x s = (match s.cell x.arr (s.v x.a) with | some _ => s.store x.arr (s.v x.a) (s.v x.b) | none => s.see 4 1) := by unfold doesM; rw [e]; rfl
theorem does_6 (e : x.op = 6) : doesM D p x s = (match s.cell x.arr (s.v x.a) with | some _ => s | none => s.see 4 1) := by unfold doesM; rw [e]; rfl
theorem does_7 (e : x.op = 7) : doesM D p x s = (if s.v x.a = 0 then s.see 4 2 else s) := by unfold doesM; rw [e]; rfl
theorem does_8 (e : x.op = 8) : doesM D p x s = s.read x.v := by unfold doesM; rw [e]; rfl
theorem does_9 (e : x.op = 9) : doesM D p x s = s.see 2 (s.v x.a) := by unfold doesM; rw [e]; rfl
theorem does_10 (e : x.op = 10) : doesM D p x s = s.see 3 (s.v x.a) := by unfold doesM; rw [e]; rfl
theorem does_11 (e : x.op = 11) : doesM D p x s = s.enter p x.f x.v (x.args.map s.v) := by unfold doesM; rw [e]; rfl
theorem does_12 (e : x.op = 12) : doesM D p x s = s.ret (s.v x.a) := by unfold doesM; rw [e]; rfl
theorem does_13 (e : x.op = 13) : doesM D p x s = s.jump x.to := by unfold doesM; rw [e]; rfl
theorem does_14 (e : x.op = 14) : doesM D p x s = (if s.v x.a = 0 then s.jump x.to else s) := by unfold doesM; rw [e]; rfl
end
/-- All numbers that an instruction names are in range. -/
theorem step_ok {p : PrW} {s : MS} (h : MOk p s) (g : PrGood p) (hD : ∀ o a b, I64 (D o a b)) (hc : ∀ x : In, (∃ f ∈ p.fns, x ∈ f.code) → I64 x.n) : MOk p (stepM D p s) := by
  cases he : s.ended with
  | true => rw [step_ended D he]; exact h
  | false =>
    obtain ⟨fn, x, hf, hcx, hat, ho, hg, hvl, hnx⟩ := h.inst g he
    have hxn : I64 x.n := hc x ⟨fn, List.mem_of_getElem? hf, List.mem_of_getElem? hcx⟩
    have hs : stepM D p s = doesM D p x s.tick := by simp [stepM, he, hat]
    rw [hs]
    have hop := ho.op
    by_cases h12 : x.op = 12
    · have h1 : MOk p { s.tick with ended := true } := ⟨h.inp, h.arr, h.arri, fun q hq => by
        rcases List.mem_append.1 hq with hq | hq
        · exact h.fr q (List.mem_append_left _ hq)
        · rw [List.mem_singleton] at hq; subst hq; exact ⟨h.topOk.f, h.topOk.vars, h.topOk.ints⟩, h.bi, fun e => by simp at e, into_change (g := s.top) (g' := s.tick.top) rfl rfl _ h.into, h.evs, by have := h.many; simp only [MS.tick]; omega⟩
      have hr : MRoom { s.tick with ended := true } := ⟨by have := h.many; simp only [MS.tick]; omega, by have := h.many; simp only [MS.tick]; omega⟩
      have h2 := h1.ret hr (n := s.tick.v x.a) (h.v x.a)
      rw [does_12 D h12]
      cases hb : s.base.getLast? with
      | none =>
        have e : s.tick.ret (s.tick.v x.a) = s.tick.see 3 (s.tick.v x.a) := by simp [MS.ret, MS.tick, hb]
        have e2 : MS.ret { s.tick with ended := true } (s.tick.v x.a) = s.tick.see 3 (s.tick.v x.a) := by simp [MS.ret, MS.tick, hb, MS.see]
        rw [e2] at h2; rw [e]; exact h2
      | some q =>
        have e : s.tick.ret (s.tick.v x.a) = { (MS.ret { s.tick with ended := true } (s.tick.v x.a)) with ended := s.ended } := by simp [MS.ret, MS.tick, hb]
        have hti : (atM p (s.tick.ret (s.tick.v x.a)).top.f (s.tick.ret (s.tick.v x.a)).top.i).isSome = true := by
          have : (s.tick.ret (s.tick.v x.a)).top = { q with vars := q.vars.set s.top.into (s.tick.v x.a) } := by simp [MS.ret, MS.tick, hb]
          rw [this]
          exact h.bi q (List.mem_of_getLast? hb)
        rw [e] at hti ⊢
        exact ⟨h2.inp, h2.arr, h2.arri, h2.fr, h2.bi, fun _ => hti, h2.into, h2.evs, h2.many⟩
    · have h1 : MOk p s.tick := ⟨h.inp, h.arr, h.arri, fun q hq => by
        rcases List.mem_append.1 hq with hq | hq
        · exact h.fr q (List.mem_append_left _ hq)
        · rw [List.mem_singleton] at hq; subst hq; exact ⟨h.topOk.f, h.topOk.vars, h.topOk.ints⟩, h.bi, fun _ => hnx h12, into_change (g := s.top) (g' := s.tick.top) rfl rfl _ h.into, h.evs, by have := h.many; simp only [MS.tick]; omega⟩
      have hr : MRoom s.tick := ⟨by have := h.many; simp only [MS.tick]; omega, by have := h.many; simp only [MS.tick]; omega⟩
      have hto : hasT x.op = true → (atM p s.tick.top.f x.to.toNat).isSome = true := fun e => at_some hf (by have := ho.to e; omega)
      have i41 : I64 1 := ⟨by omega, by omega⟩
      have i42 : I64 2 := ⟨by omega, by omega⟩
      have hcs : x.op = 1 ∨ x.op = 2 ∨ x.op = 3 ∨ x.op = 4 ∨ x.op = 5 ∨ x.op = 6 ∨ x.op = 7 ∨ x.op = 8 ∨ x.op = 9 ∨ x.op = 10 ∨ x.op = 11 ∨ x.op = 13 ∨ x.op = 14 := by omega
      rcases hcs with e | e | e | e | e | e | e | e | e | e | e | e | e
      · rw [does_1 D e]; exact h1.put _ hxn
      · rw [does_2 D e]; exact h1.put _ (h1.v _)
      · rw [does_3 D e]; exact h1.put _ (hD _ _ _)
      · rw [does_4 D e]
        split
        · rename_i n e; exact h1.put _ (h1.cell_i64 e)
        · exact h1.see hr 4 i41
      · rw [does_5 D e]
        split
        · exact h1.store _ _ (h1.v _)
        · exact h1.see hr 4 i41
      · rw [does_6 D e]
        split
        · exact h1
        · exact h1.see hr 4 i41
      · rw [does_7 D e]
        split
        · exact h1.see hr 4 i42
        · exact h1
      · rw [does_8 D e]; exact h1.read hr _
      · rw [does_9 D e]; exact h1.see hr 2 (h1.v _)
      · rw [does_10 D e]; exact h1.see hr 3 (h1.v _)
      · rw [does_11 D e]
        have hv := ho.v (by rw [e]; rfl)
        exact h1.enter g hr (ho.f (by rw [e]; rfl)) ⟨hv.1, by show x.v < (s.top.vars.length : Int); omega⟩ (fun n hn => by
          obtain ⟨k, _, rfl⟩ := List.mem_map.1 hn; exact h1.v k) (hnx h12)
      · rw [does_13 D e]; exact h1.jump (hto (by rw [e]; rfl))
      · rw [does_14 D e]
        split
        · exact h1.jump (hto (by rw [e]; rfl))
        · exact h1
theorem run_ok {p : PrW} (g : PrGood p) (hD : ∀ o a b, I64 (D o a b)) (hc : ∀ x : In, (∃ f ∈ p.fns, x ∈ f.code) → I64 x.n) : ∀ (n : Nat) {s : MS}, MOk p s → MOk p (runM D p n s)
  | 0, _, h => h
  | n + 1, _, h => run_ok g hD hc n (step_ok D h g hD hc)
theorem doesM_steps {p : PrW} (x : In) (s : MS) : (doesM D p x s).steps = s.steps := by
  have hr : ∀ n, (s.ret n).steps = s.steps := fun n => by unfold MS.ret; cases s.base.getLast? <;> rfl
  have i1 : ∀ (c : Prop) [Decidable c] (a b : MS), a.steps = s.steps → b.steps = s.steps → (if c then a else b).steps = s.steps := fun c _ a b ha hb => by by_cases h : c <;> simp [h, ha, hb]
  have i2 : ∀ (o : Option Int) (f : Int → MS) (b : MS), (∀ n, (f n).steps = s.steps) → b.steps = s.steps → (match o with | some n => f n | none => b).steps = s.steps := fun o f b ha hb => by cases o <;> simp [ha, hb]
  unfold doesM
  refine i1 _ _ _ rfl (i1 _ _ _ rfl (i1 _ _ _ rfl (i1 _ _ _ (i2 _ _ _ (fun _ => rfl) rfl) (i1 _ _ _ (i2 _ _ _ (fun _ => rfl) rfl) (i1 _ _ _ (i2 _ _ _ (fun _ => rfl) rfl) (i1 _ _ _ (i1 _ _ _ rfl rfl) (i1 _ _ _ rfl (i1 _ _ _ rfl (i1 _ _ _ rfl (i1 _ _ _ rfl (i1 _ _ _ (hr _) (i1 _ _ _ rfl (i1 _ _ _ rfl rfl)))))))))))))
theorem step_steps {p : PrW} {s : MS} : (stepM D p s).steps ≤ s.steps + 1 := by
  unfold stepM
  split
  · omega
  · split
    · omega
    · rw [doesM_steps]; exact Nat.le_refl _
theorem run_steps {p : PrW} : ∀ (n : Nat) {s : MS}, (runM D p n s).steps ≤ s.steps + n
  | 0, _ => Nat.le_refl _
  | n + 1, s => by have := run_steps (p := p) n (s := stepM D p s); have := step_steps D (p := p) (s := s); simp only [runM]; omega
theorem new_ok {p : PrW} (g : PrGood p) {inp : List Int} (hi : ∀ n ∈ inp, I64 n) : MOk p (newM p inp) := by
  have hm := g.main
  have hfn : p.fns[p.main.toNat]? = some p.fns[p.main.toNat] := List.getElem?_eq_getElem (by omega)
  have hl : p.main.toNat < p.fns.length := by omega
  have hg := g.fns _ (List.getElem_mem hl)
  have hz : ∀ (k : Nat) (n : Int), n ∈ List.replicate k 0 → I64 n := fun k n hn => by rw [List.eq_of_mem_replicate hn]; exact i64_zero
  refine ⟨hi, ?_, fun l hl n hn => ?_, fun q hq => ?_, fun q hq => by simp [newM] at hq, fun _ => at_some hfn hg.pos, trivial, fun e he => by simp [newM] at he, by simp [newM]⟩
  · simp [newM]
  · obtain ⟨m, _, rfl⟩ := List.mem_map.1 hl; exact hz _ n hn
  · simp only [newM, List.nil_append, List.mem_singleton] at hq; subst hq
    have e : varsM p p.main = varsM p ((p.main.toNat : Nat) : Int) := by rw [Int.toNat_of_nonneg hm.1]
    refine ⟨by show p.main.toNat < _; omega, ?_, fun n hn => hz _ n hn⟩
    show ((List.replicate (varsM p p.main).toNat 0).length : Int) = varsM p ((p.main.toNat : Nat) : Int)
    rw [List.length_replicate, e, vars_at hfn]
    have := hg.params; omega
end Go.Proofs.YtgdibfnpkcdiiaaGreatDoor

/- A run in memory: what lies where; how it is changed. By an AI agent. -/
namespace Go.Proofs.YtgdibfnpkcdiiaaGreatDoor
open Go.RowKit

/-- What a block is to a run: only read; the run itself; the rows of arrays, frames, events; an array; a frame's variables. -/
inductive Role where
  | ro | run | arow | frow | erow
  | arr (j : Nat)
  | var (i : Nat)
  deriving DecidableEq
def intsC (l : List Int) : Array Value := (l.map fun n => Value.int .i64 n).toArray
structure FrG where
  x : FnG
  r : FrM
  b : Nat
def frC (g : FrG) : List Value := [.string ⟨g.x.fn.name.toArray⟩, .int .i64 g.x.fn.params, .int .i64 g.x.fn.vars, g.x.cv, .int .i64 g.r.f, .int .i64 g.r.i, .slice (some ⟨g.b, 0, none⟩) g.r.vars.length g.r.vars.length, .int .i64 g.r.into]
def evC (e : Nat × Int) : List Value := [.int .u8 e.1, .int .i64 e.2]
def arC (a : Nat × List Int) : List Value := [.slice (some ⟨a.1, 0, none⟩) a.2.length a.2.length]
/-- Where a run lies. -/
structure RG where
  r : Nat
  n0 : Nat
  gp : PrG
  iv : Value
  arv : Value
  frv : Value
  evv : Value
  ars : List Nat
  bs : List FrG
  t : FrG
def RG.fs (G : RG) : List FrG := G.bs ++ [G.t]
def RG.cells (G : RG) (s : MS) : Array Value := #[G.gp.av, G.gp.fv, .int .i64 G.gp.p.main, G.iv, G.arv, G.frv, G.evv, .bool s.ended, .int .i64 s.steps]
structure RunR (w : World) (ρ : Nat → Option Role) (G : RG) (s : MS) : Prop where
  run : Blk w G.r 113 (G.cells s)
  runr : ρ G.r = some .run
  dom : ∀ k q, ρ k = some q → G.n0 ≤ k ∧ k < w.heap.size
  ro : ∀ w', (∀ k, ρ k = some .ro → w'.heap[k]? = w.heap[k]?) → PrR w' G.gp ∧ IntsV w' G.iv s.inp
  arow : w.ownsRow G.n0 40 1 G.arv s.arr.length ((G.ars.zip s.arr).flatMap arC)
  arowr : ∀ k, G.arv.ownBlock = some k → ρ k = some .arow
  al : G.ars.length = s.arr.length
  arr : ∀ (j b : Nat) (l : List Int), G.ars[j]? = some b → s.arr[j]? = some l → Blk w b 2 (intsC l) ∧ ρ b = some (.arr j)
  frow : w.ownsRow G.n0 119 8 G.frv G.fs.length (G.fs.flatMap frC)
  frowr : ∀ k, G.frv.ownBlock = some k → ρ k = some .frow
  fb : G.bs.map (·.r) = s.base
  ft : G.t.r = s.top
  fr : ∀ (i : Nat) (g : FrG), G.fs[i]? = some g → G.gp.l[g.r.f]? = some g.x ∧ Blk w g.b 2 (intsC g.r.vars) ∧ ρ g.b = some (.var i)
  erow : w.ownsRow G.n0 52 2 G.evv s.evs.length (s.evs.flatMap evC)
  erowr : ∀ k, G.evv.ownBlock = some k → ρ k = some .erow
  n0 : G.n0 ≤ w.heap.size
theorem own_keep {w w' : World} {base e size n : Nat} {v : Value} {xs : List Value} (h : w.ownsRow base e size v n xs) (k : ∀ b, v.ownBlock = some b → w'.heap[b]? = w.heap[b]?) : w'.ownsRow base e size v n xs := by
  refine ⟨h.1, ?_⟩
  rcases h.2 with hn | ⟨g, cap, cur, rfl, hb, hg, r⟩
  · exact Or.inl hn
  · exact Or.inr ⟨g, cap, cur, rfl, hb, (k g rfl).trans hg, r⟩
section
variable {w w' : World} {ρ : Nat → Option Role} {G : RG} {s : MS}
/-- All its blocks are as they were. -/
theorem RunR.keep (h : RunR w ρ G s) (hz : w.heap.size ≤ w'.heap.size) (k : ∀ b q, ρ b = some q → w'.heap[b]? = w.heap[b]?) : RunR w' ρ G s where
  run := (k _ _ h.runr).trans h.run
  runr := h.runr
  dom := fun b q e => ⟨(h.dom b q e).1, Nat.lt_of_lt_of_le (h.dom b q e).2 hz⟩
  ro := fun v e => h.ro v fun b hb => (e b hb).trans (k b _ hb)
  arow := own_keep h.arow fun b e => k b _ (h.arowr b e)
  arowr := h.arowr
  al := h.al
  arr := fun j b l e1 e2 => ⟨(k b _ (h.arr j b l e1 e2).2).trans (h.arr j b l e1 e2).1, (h.arr j b l e1 e2).2⟩
  frow := own_keep h.frow fun b e => k b _ (h.frowr b e)
  frowr := h.frowr
  fb := h.fb
  ft := h.ft
  fr := fun i g e => ⟨(h.fr i g e).1, (k g.b _ (h.fr i g e).2.2).trans (h.fr i g e).2.1, (h.fr i g e).2.2⟩
  erow := own_keep h.erow fun b e => k b _ (h.erowr b e)
  erowr := h.erowr
  n0 := Nat.le_trans h.n0 hz
theorem RunR.pr (h : RunR w ρ G s) : PrR w G.gp := (h.ro w fun _ _ => rfl).1
theorem RunR.inp (h : RunR w ρ G s) : IntsV w G.iv s.inp := (h.ro w fun _ _ => rfl).2
theorem RunR.below (h : RunR w ρ G s) (hb : Below w.heap.size w w') : RunR w' ρ G s := h.keep hb.size fun b q e => hb.block b (h.dom b q e).2
end
/-- What a call may have changed: the run's own blocks; new ones may be the run's. -/
structure Kp (ρ ρ' : Nat → Option Role) (w w' : World) : Prop where
  os : w'.os = w.os
  tape : w'.tape = w.tape
  output : w'.output = w.output
  size : w.heap.size ≤ w'.heap.size
  block : ∀ k, k < w.heap.size → ρ k = none → w'.heap[k]? = w.heap[k]?
  own : ∀ k, k < w.heap.size → ρ k = none → ρ' k = none
section
variable {w w' w'' : World} {ρ ρ' ρ'' σ : Nat → Option Role} {G : RG} {s : MS}
theorem Kp.refl (ρ : Nat → Option Role) (w : World) : Kp ρ ρ w w := ⟨rfl, rfl, rfl, Nat.le_refl _, fun _ _ _ => rfl, fun _ _ h => h⟩
theorem Kp.trans (h : Kp ρ ρ' w w') (k : Kp ρ' ρ'' w' w'') : Kp ρ ρ'' w w'' :=
  ⟨k.os.trans h.os, k.tape.trans h.tape, k.output.trans h.output, Nat.le_trans h.size k.size,
    fun b hb hr => (k.block b (Nat.lt_of_lt_of_le hb h.size) (h.own b hb hr)).trans (h.block b hb hr),
    fun b hb hr => k.own b (Nat.lt_of_lt_of_le hb h.size) (h.own b hb hr)⟩
theorem Kp.of_below (hb : Below w.heap.size w w') : Kp ρ ρ w w' := ⟨hb.os, hb.tape, hb.output, hb.size, fun k hk _ => hb.block k hk, fun _ _ h => h⟩
/-- A store into a block of the run. -/
theorem Kp.set {a : Addr} {q : Role} (h : ρ a.block = some q) (u : Value) : Kp ρ ρ w (w.setCell a u) :=
  ⟨rfl, rfl, rfl, by simp [World.setCell], fun k _ hk => Below.heap_setCell _ _ _ _ (fun e => by rw [e, h] at hk; cases hk), fun _ _ h => h⟩
theorem Kp.alloc (o : Obj) : Kp ρ ρ w (w.alloc o) := Kp.of_below ((Below.refl _ _).alloc (Nat.le_refl _) _)
theorem Kp.to_below (h : Kp ρ ρ' w w') {n : Nat} (hn : n ≤ w.heap.size) (hr : ∀ k q, ρ k = some q → n ≤ k) : Below n w w' :=
  ⟨h.os, h.tape, h.output, h.size, fun k hk => h.block k (by omega) (by
    cases e : ρ k with
    | none => rfl
    | some q => have := hr k q e; omega)⟩
/-- Another run is as it was. -/
theorem RunR.other (h : RunR w σ G s) (k : Kp ρ ρ' w w') (hd : ∀ b, σ b = none ∨ ρ b = none) : RunR w' σ G s :=
  h.keep k.size fun b q e => k.block b (h.dom b q e).2 (by rcases hd b with h1 | h1; · rw [e] at h1; cases h1
                                                           · exact h1)
theorem other_dis (h : RunR w σ G s) (k : Kp ρ ρ' w w') (hd : ∀ b, σ b = none ∨ ρ b = none) : ∀ b, σ b = none ∨ ρ' b = none := fun b => by
  cases e : σ b with
  | none => exact Or.inl rfl
  | some q =>
    refine Or.inr (k.own b (h.dom b q e).2 ?_)
    rcases hd b with h1 | h1
    · rw [e] at h1; cases h1
    · exact h1
end
/-- Where a run lies, its letters hidden. -/
def Runs (w : World) (ρ : Nat → Option Role) (r n0 : Nat) (gp : PrG) (s : MS) : Prop := ∃ G : RG, G.r = r ∧ G.n0 = n0 ∧ G.gp = gp ∧ RunR w ρ G s
theorem flat_set_same {α : Type} (C : α → List Value) : ∀ (l : List α) (i : Nat) (a b : α), l[i]? = some a → C b = C a → (l.set i b).flatMap C = l.flatMap C
  | [], _, _, _, h, _ => by simp at h
  | x :: l, 0, a, b, h, e => by simp at h; subst h; simp [e]
  | x :: l, i + 1, a, b, h, e => by simp only [List.set_cons_succ, List.flatMap_cons]; rw [flat_set_same C l i a b (by simpa using h) e]
theorem flat_set {α : Type} (C : α → List Value) (z : Nat) (hz : ∀ x, (C x).length = z) (q : Nat) (u : Value) (hq : q < z) : ∀ (l : List α) (i : Nat) (a b : α), l[i]? = some a → C b = (C a).set q u → (l.set i b).flatMap C = (l.flatMap C).set (i * z + q) u
  | [], _, _, _, h, _ => by simp at h
  | x :: l, 0, a, b, h, e => by
    simp at h; subst h
    simp only [List.set_cons_zero, List.flatMap_cons, Nat.zero_mul, Nat.zero_add]
    rw [e, List.set_append_left _ _ (by rw [hz]; exact hq)]
  | x :: l, i + 1, a, b, h, e => by
    simp only [List.set_cons_succ, List.flatMap_cons]
    rw [flat_set C z hz q u hq l i a b (by simpa using h) e, List.set_append_right _ _ (by rw [hz, Nat.add_mul]; omega), hz]
    congr 2
    rw [Nat.add_mul]; omega
/-- A store into an own row. -/
theorem own_put {w : World} {base e size n g cap j : Nat} {xs : List Value} (h : w.ownsRow base e size (.slice (some ⟨g, 0, none⟩) n cap) n xs) (u : Value) : (w.setCell ⟨g, j, none⟩ u).ownsRow base e size (.slice (some ⟨g, 0, none⟩) n cap) n (xs.set j u) := by
  refine ⟨by simpa using h.1, ?_⟩
  rcases h.2 with ⟨e1, _⟩ | ⟨g', cap', cur, hv, hb, hg, hn, hm, hs, ht⟩
  · cases e1
  · injection hv with e1 _ e3
    injection e1 with e1; injection e1 with e1
    subst e1; subst e3
    refine Or.inr ⟨g, cap, cur.setIfInBounds j u, rfl, hb, ?_, hn, hm, by simpa using hs, ?_⟩
    · have : Blk (w.setCell ⟨g, j, none⟩ u) g e (cur.setIfInBounds j u) := Blk.put (show Blk w g e cur from hg) j u
      exact this
    · rw [Array.toList_setIfInBounds, List.take_set, ht]
end Go.Proofs.YtgdibfnpkcdiiaaGreatDoor

/- How a run in memory is changed, cell by cell. By an AI agent. -/
namespace Go.Proofs.YtgdibfnpkcdiiaaGreatDoor
open Go.RowKit

theorem zip_set {α β : Type} : ∀ (a : List α) (l : List β) (j : Nat) (b : α) (v : β), a[j]? = some b → a.zip (l.set j v) = (a.zip l).set j (b, v)
  | [], _, _, _, _, h => by simp at h
  | _ :: _, [], _, _, _, _ => by simp
  | x :: a, y :: l, 0, b, v, h => by simp at h; subst h; simp
  | x :: a, y :: l, j + 1, b, v, h => by simp only [List.set_cons_succ, List.zip_cons_cons]; rw [zip_set a l j b v (by simpa using h)]
theorem intsC_set (l : List Int) (k : Nat) (n : Int) : (intsC l).setIfInBounds k (.int .i64 n) = intsC (l.set k n) := by
  simp [intsC, List.map_set]
theorem set_same {w : World} {ρ : Nat → Option Role} {a : Addr} {q : Role} (ha : ρ a.block = some q) (u : Value) : ∀ b q', ρ b = some q' → q' ≠ q → (w.setCell a u).heap[b]? = w.heap[b]? :=
  fun b q' hb hq => Below.heap_setCell _ _ _ _ (fun e => by rw [e, ha] at hb; injection hb with hb; exact hq hb.symm)
section
variable {w w' : World} {ρ : Nat → Option Role} {G : RG} {s : MS}
/-- Only blocks of one role have turned. -/
structure But (ρ : Nat → Option Role) (q : Role) (w w' : World) : Prop where
  same : ∀ b q', ρ b = some q' → q' ≠ q → w'.heap[b]? = w.heap[b]?
  size : w.heap.size ≤ w'.heap.size
theorem But.set {a : Addr} {q : Role} (ha : ρ a.block = some q) (u : Value) : But ρ q w (w.setCell a u) := ⟨set_same ha u, by simp [World.setCell]⟩
section
variable {q : Role} (h : RunR w ρ G s) (k : But ρ q w w')
include h k
theorem RunR.dom' : ∀ b q, ρ b = some q → G.n0 ≤ b ∧ b < w'.heap.size := fun b q e => ⟨(h.dom b q e).1, Nat.lt_of_lt_of_le (h.dom b q e).2 k.size⟩
theorem RunR.run' (hq : Role.run ≠ q) : Blk w' G.r 113 (G.cells s) := (k.same _ _ h.runr hq).trans h.run
theorem RunR.ro' (hq : Role.ro ≠ q) : ∀ v : World, (∀ b, ρ b = some .ro → v.heap[b]? = w'.heap[b]?) → PrR v G.gp ∧ IntsV v G.iv s.inp := fun v e => h.ro v fun b hb => (e b hb).trans (k.same b _ hb hq)
theorem RunR.arow' (hq : Role.arow ≠ q) : w'.ownsRow G.n0 40 1 G.arv s.arr.length ((G.ars.zip s.arr).flatMap arC) := own_keep h.arow fun b e => k.same b _ (h.arowr b e) hq
theorem RunR.frow' (hq : Role.frow ≠ q) : w'.ownsRow G.n0 119 8 G.frv G.fs.length (G.fs.flatMap frC) := own_keep h.frow fun b e => k.same b _ (h.frowr b e) hq
theorem RunR.erow' (hq : Role.erow ≠ q) : w'.ownsRow G.n0 52 2 G.evv s.evs.length (s.evs.flatMap evC) := own_keep h.erow fun b e => k.same b _ (h.erowr b e) hq
theorem RunR.arr' (hq : ∀ j, Role.arr j ≠ q) : ∀ (j b : Nat) (l : List Int), G.ars[j]? = some b → s.arr[j]? = some l → Blk w' b 2 (intsC l) ∧ ρ b = some (.arr j) := fun j b l e1 e2 => ⟨(k.same b _ (h.arr j b l e1 e2).2 (hq j)).trans (h.arr j b l e1 e2).1, (h.arr j b l e1 e2).2⟩
theorem RunR.fr' (hq : ∀ j, Role.var j ≠ q) : ∀ (i : Nat) (g : FrG), G.fs[i]? = some g → G.gp.l[g.r.f]? = some g.x ∧ Blk w' g.b 2 (intsC g.r.vars) ∧ ρ g.b = some (.var i) := fun i g e => ⟨(h.fr i g e).1, (k.same g.b _ (h.fr i g e).2.2 (hq i)).trans (h.fr i g e).2.1, (h.fr i g e).2.2⟩
theorem RunR.n0' : G.n0 ≤ w'.heap.size := Nat.le_trans h.n0 k.size
end
/-- Steps, the end: cells of the run itself. -/
theorem RunR.setSteps (h : RunR w ρ G s) (n : Nat) : RunR (w.setCell ⟨G.r, 8, none⟩ (.int .i64 n)) ρ G { s with steps := n } :=
  have k : But ρ .run w (w.setCell ⟨G.r, 8, none⟩ (.int .i64 n)) := But.set h.runr _
  ⟨h.run.put 8 _, h.runr, h.dom' k, h.ro' k (by simp), h.arow' k (by simp), h.arowr, h.al, h.arr' k (by simp), h.frow' k (by simp), h.frowr, h.fb, h.ft, h.fr' k (by simp), h.erow' k (by simp), h.erowr, h.n0' k⟩
theorem RunR.setEnded (h : RunR w ρ G s) (b : Bool) : RunR (w.setCell ⟨G.r, 7, none⟩ (.bool b)) ρ G { s with ended := b } :=
  have k : But ρ .run w (w.setCell ⟨G.r, 7, none⟩ (.bool b)) := But.set h.runr _
  ⟨h.run.put 7 _, h.runr, h.dom' k, h.ro' k (by simp), h.arow' k (by simp), h.arowr, h.al, h.arr' k (by simp), h.frow' k (by simp), h.frowr, h.fb, h.ft, h.fr' k (by simp), h.erow' k (by simp), h.erowr, h.n0' k⟩
theorem RunR.setIn (h : RunR w ρ G s) {v : Value} {l : List Int} (hv : ∀ u : World, IntsV u G.iv s.inp → IntsV u v l) : RunR (w.setCell ⟨G.r, 3, none⟩ v) ρ { G with iv := v } { s with inp := l } :=
  have k : But ρ .run w (w.setCell ⟨G.r, 3, none⟩ v) := But.set h.runr _
  ⟨h.run.put 3 _, h.runr, h.dom' k, fun u e => ⟨(h.ro' k (by simp) u e).1, hv u (h.ro' k (by simp) u e).2⟩, h.arow' k (by simp), h.arowr, h.al, h.arr' k (by simp), h.frow' k (by simp), h.frowr, h.fb, h.ft, h.fr' k (by simp), h.erow' k (by simp), h.erowr, h.n0' k⟩
theorem RG.fs_at (G : RG) : G.fs[G.bs.length]? = some G.t := by simp [RG.fs]
theorem fs_cases {bs : List FrG} {t g : FrG} {i : Nat} (e : (bs ++ [t])[i]? = some g) : (i < bs.length ∧ bs[i]? = some g) ∨ (i = bs.length ∧ g = t) := by
  rcases Nat.lt_trichotomy i bs.length with h | h | h
  · rw [List.getElem?_append_left h] at e; exact Or.inl ⟨h, e⟩
  · subst h; simp at e; exact Or.inr ⟨rfl, e.symm⟩
  · rw [List.getElem?_eq_none (by simp; omega)] at e; cases e
/-- A variable of the last frame. -/
theorem RunR.putVar (h : RunR w ρ G s) (j : Nat) (n : Int) : RunR (w.setCell ⟨G.t.b, j, none⟩ (.int .i64 n)) ρ { G with t := { G.t with r := { G.t.r with vars := G.t.r.vars.set j n } } } { s with top := { s.top with vars := s.top.vars.set j n } } := by
  obtain ⟨t1, t2, t3⟩ := h.fr _ _ G.fs_at
  have k : But ρ (.var G.bs.length) w (w.setCell ⟨G.t.b, j, none⟩ (.int .i64 n)) := But.set t3 _
  have hC : frC { G.t with r := { G.t.r with vars := G.t.r.vars.set j n } } = frC G.t := by simp [frC]
  refine ⟨h.run' k (by simp), h.runr, h.dom' k, h.ro' k (by simp), h.arow' k (by simp), h.arowr, h.al, h.arr' k (by simp), ?_, h.frowr, h.fb, by rw [← h.ft], ?_, h.erow' k (by simp), h.erowr, h.n0' k⟩
  · have := h.frow' k (by simp)
    simp only [RG.fs, List.length_append, List.length_cons, List.length_nil, List.flatMap_append, List.flatMap_cons, List.flatMap_nil] at this ⊢
    rw [hC]; exact this
  · intro i g e
    rcases fs_cases (bs := G.bs) e with ⟨hi, e⟩ | ⟨rfl, rfl⟩
    · have e' : G.fs[i]? = some g := by rw [RG.fs, List.getElem?_append_left hi]; exact e
      refine ⟨(h.fr i g e').1, (k.same g.b _ (h.fr i g e').2.2 (by intro c; injection c with c; have : i < G.bs.length := hi; omega)).trans (h.fr i g e').2.1, (h.fr i g e').2.2⟩
    · exact ⟨t1, by have := Blk.put t2 j (.int .i64 n); rw [intsC_set] at this; exact this, t3⟩
/-- Where the last frame is. -/
theorem RunR.setAt (h : RunR w ρ G s) {g m cap : Nat} (hv : G.frv = .slice (some ⟨g, 0, none⟩) m cap) (i : Nat) : RunR (w.setCell ⟨g, G.bs.length * 8 + 5, none⟩ (.int .i64 i)) ρ { G with t := { G.t with r := { G.t.r with i := i } } } { s with top := { s.top with i := i } } := by
  have hg : ρ g = some .frow := h.frowr g (by rw [hv]; rfl)
  have k : But ρ .frow w (w.setCell ⟨g, G.bs.length * 8 + 5, none⟩ (.int .i64 i)) := But.set hg _
  have hfl : (G.bs.flatMap frC).length = G.bs.length * 8 := by
    have : ∀ l : List FrG, (l.flatMap frC).length = l.length * 8 := fun l => by
      induction l with
      | nil => rfl
      | cons a l ih => rw [List.flatMap_cons, List.length_append, ih, List.length_cons]; simp only [frC, List.length_cons, List.length_nil]; omega
    exact this _
  refine ⟨h.run' k (by simp), h.runr, h.dom' k, h.ro' k (by simp), h.arow' k (by simp), h.arowr, h.al, h.arr' k (by simp), ?_, h.frowr, h.fb, by rw [← h.ft], ?_, h.erow' k (by simp), h.erowr, h.n0' k⟩
  · have hr := h.frow
    have hm : m = G.fs.length := by
      rcases hr.2 with ⟨e, _⟩ | ⟨_, _, _, e, _⟩
      · rw [hv] at e; cases e
      · rw [hv] at e; injection e
    rw [hv, ← hm] at hr
    have := own_put (j := G.bs.length * 8 + 5) hr (.int .i64 i)
    show (w.setCell _ _).ownsRow G.n0 119 8 G.frv _ _
    rw [hv]
    simp only [RG.fs, List.length_append, List.length_cons, List.length_nil, List.flatMap_append, List.flatMap_cons, List.flatMap_nil, List.append_nil] at this hm ⊢
    rw [List.set_append_right _ _ (by rw [hfl]; omega), hfl, show G.bs.length * 8 + 5 - G.bs.length * 8 = 5 by omega] at this
    rw [← hm]
    exact this
  · intro j x e
    rcases fs_cases e with ⟨hi, e⟩ | ⟨rfl, rfl⟩
    · have e' : G.fs[j]? = some x := by rw [RG.fs, List.getElem?_append_left hi]; exact e
      exact h.fr' k (by simp) j x e'
    · obtain ⟨t1, t2, t3⟩ := h.fr' k (by simp) _ _ G.fs_at
      exact ⟨t1, t2, t3⟩
/-- A number of an array. -/
theorem RunR.setArr (h : RunR w ρ G s) {j b : Nat} {l : List Int} (hb : G.ars[j]? = some b) (hl : s.arr[j]? = some l) (i : Nat) (n : Int) : RunR (w.setCell ⟨b, i, none⟩ (.int .i64 n)) ρ G { s with arr := s.arr.set j (l.set i n) } := by
  obtain ⟨t1, t2⟩ := h.arr j b l hb hl
  have k : But ρ (.arr j) w (w.setCell ⟨b, i, none⟩ (.int .i64 n)) := But.set t2 _
  have hjl := (List.getElem?_eq_some_iff.1 hl).1
  refine ⟨h.run' k (by simp), h.runr, h.dom' k, h.ro' k (by simp), ?_, h.arowr, by simpa using h.al, ?_, h.frow' k (by simp), h.frowr, h.fb, h.ft, h.fr' k (by simp), h.erow' k (by simp), h.erowr, h.n0' k⟩
  · have := h.arow' k (by simp)
    have e : ((G.ars.zip (s.arr.set j (l.set i n))).flatMap arC) = ((G.ars.zip s.arr).flatMap arC) := by
      have e1 := zip_set G.ars s.arr j b (l.set i n) hb
      rw [e1]
      exact flat_set_same arC _ _ (b, l) _ (by rw [List.getElem?_zip_eq_some]; exact ⟨hb, hl⟩) (by simp [arC])
    show (w.setCell _ _).ownsRow G.n0 40 1 G.arv (s.arr.set j (l.set i n)).length _
    rw [e, List.length_set]; exact this
  · intro q b' l' e1 e2
    by_cases hq : q = j
    · subst hq
      rw [hb] at e1; injection e1 with e1; subst e1
      rw [List.getElem?_set_self hjl] at e2; injection e2 with e2; subst e2
      exact ⟨by have := Blk.put t1 i (.int .i64 n); rw [intsC_set] at this; exact this, t2⟩
    · rw [List.getElem?_set_ne (fun e => hq e.symm)] at e2
      obtain ⟨r1, r2⟩ := h.arr q b' l' e1 e2
      exact ⟨(k.same b' _ r2 (by intro c; injection c; omega)).trans r1, r2⟩
end
end Go.Proofs.YtgdibfnpkcdiiaaGreatDoor

/- How a run in memory grows: an event, a frame; a frame less. By an AI agent. -/
namespace Go.Proofs.YtgdibfnpkcdiiaaGreatDoor
open Go.RowKit

def roleSet (ρ : Nat → Option Role) (g : Nat) (q : Role) : Nat → Option Role := fun k => if k = g then some q else ρ k
theorem role_mono {ρ : Nat → Option Role} {g : Nat} {q : Role} (h : ρ g = some q ∨ ρ g = none) : ∀ b x, ρ b = some x → roleSet ρ g q b = some x := fun b x e => by
  unfold roleSet
  split
  · rename_i eq; subst eq
    rcases h with h | h
    · rw [← h, e]
    · rw [h] at e; cases e
  · exact e
theorem role_self {ρ : Nat → Option Role} {g : Nat} {q : Role} : roleSet ρ g q g = some q := by simp [roleSet]
section
variable {w w1 : World} {ρ ρ' : Nat → Option Role} {G : RG} {s : MS}
/-- More roles. -/
theorem RunR.roles (h : RunR w ρ G s) (m : ∀ b x, ρ b = some x → ρ' b = some x) (d : ∀ k q, ρ' k = some q → G.n0 ≤ k ∧ k < w.heap.size) : RunR w ρ' G s :=
  ⟨h.run, m _ _ h.runr, d, fun v e => h.ro v fun b hb => e b (m _ _ hb), h.arow, fun k e => m _ _ (h.arowr k e), h.al, fun j b l e1 e2 => ⟨(h.arr j b l e1 e2).1, m _ _ (h.arr j b l e1 e2).2⟩, h.frow, fun k e => m _ _ (h.frowr k e), h.fb, h.ft, fun i g e => ⟨(h.fr i g e).1, (h.fr i g e).2.1, m _ _ (h.fr i g e).2.2⟩, h.erow, fun k e => m _ _ (h.erowr k e), h.n0⟩
theorem RunR.adopt (h : RunR w ρ G s) {b : Nat} (q : Role) (hb : ρ b = none) (h0 : G.n0 ≤ b) (hl : b < w.heap.size) : RunR w (roleSet ρ b q) G s :=
  h.roles (role_mono (Or.inr hb)) fun k q e => by
    unfold roleSet at e
    split at e
    · rename_i e2; subst e2; exact ⟨h0, hl⟩
    · exact h.dom k q e
theorem RunR.free (h : RunR w ρ G s) {k : Nat} (hk : w.heap.size ≤ k) : ρ k = none := by
  cases e : ρ k with
  | none => rfl
  | some q => have := (h.dom k q e).2; omega
theorem grown_set {v : Value} (hg : w.grownBy w1 v.ownBlock) (q : Role) (hv : ∀ k, v.ownBlock = some k → ρ k = some q) (r i : Nat) (hr : ρ r = some .run) (u : Value) (hd : ∀ k x, ρ k = some x → k < w.heap.size) : ∀ b x, ρ b = some x → x ≠ q → x ≠ .run → (w1.setCell ⟨r, i, none⟩ u).heap[b]? = w.heap[b]? := fun b x e h1 h2 => by
  rw [Below.heap_setCell _ _ _ _ (fun c => by have c : b = r := c; rw [c, hr] at e; injection e with e; exact h2 e.symm)]
  exact hg.block b (hd b x e) (fun c => by have := hv b c.symm; rw [e] at this; injection this with this; exact h1 this)
/-- What an append and a store into the run keep. -/
theorem kp_grown {v : Value} (h : RunR w ρ G s) (hg : w.grownBy w1 v.ownBlock) (q : Role) (hv : ∀ k, v.ownBlock = some k → ρ k = some q) {g : Nat} (hat : v.ownBlock = some g ∨ g = w.heap.size) (i : Nat) (u : Value) : Kp ρ (roleSet ρ g q) w (w1.setCell ⟨G.r, i, none⟩ u) := by
  refine ⟨hg.os, hg.tape, hg.output, Nat.le_trans hg.size (by simp [World.setCell]), fun k hk hn => ?_, fun k hk hn => ?_⟩
  · rw [Below.heap_setCell _ _ _ _ (fun c => by have c : k = G.r := c; rw [c, h.runr] at hn; cases hn)]
    exact hg.block k hk (fun c => by rw [hv k c.symm] at hn; cases hn)
  · unfold roleSet
    split
    · rename_i e
      rcases hat with c | c
      · rw [hv k (e ▸ c)] at hn; cases hn
      · omega
    · exact hn
section
variable {g cap : Nat}
theorem grown_dom (h : RunR w ρ G s) {v : Value} {e : TypeId} {size n : Nat} {xs : List Value} {i : Nat} {u : Value} {q : Role} (hown : w1.ownsRow G.n0 e size (.slice (some ⟨g, 0, none⟩) n cap) n xs) (hg : w.grownBy w1 v.ownBlock) : ∀ k q', roleSet ρ g q k = some q' → G.n0 ≤ k ∧ k < (w1.setCell ⟨G.r, i, none⟩ u).heap.size := fun k q' c => by
  have hz : (w1.setCell ⟨G.r, i, none⟩ u).heap.size = w1.heap.size := by simp [World.setCell]
  rw [hz]
  unfold roleSet at c
  split at c
  · rename_i e; subst e; exact hown.lt k rfl
  · exact ⟨(h.dom k q' c).1, Nat.lt_of_lt_of_le (h.dom k q' c).2 hg.size⟩
theorem role_ok (h : RunR w ρ G s) {v : Value} {q : Role} (hv : ∀ k, v.ownBlock = some k → ρ k = some q) (hat : v.ownBlock = some g ∨ g = w.heap.size) : ρ g = some q ∨ ρ g = none := by
  rcases hat with c | c
  · exact Or.inl (hv g c)
  · exact Or.inr (h.free (by omega))
theorem role_ne (h : RunR w ρ G s) {v : Value} {q : Role} (hv : ∀ k, v.ownBlock = some k → ρ k = some q) (hat : v.ownBlock = some g ∨ g = w.heap.size) (hq : q ≠ .run) : g ≠ G.r := fun e => by
  rcases role_ok h hv hat with c | c
  · rw [e, h.runr] at c; injection c with c; exact hq c.symm
  · rw [e, h.runr] at c; cases c
/-- One event more. -/
theorem RunR.evApp (h : RunR w ρ G s) (e : Nat × Int) (hown : w1.ownsRow G.n0 52 2 (.slice (some ⟨g, 0, none⟩) (s.evs.length + 1) cap) (s.evs.length + 1) (s.evs.flatMap evC ++ evC e)) (hg : w.grownBy w1 G.evv.ownBlock) (hat : G.evv.ownBlock = some g ∨ g = w.heap.size) :
    RunR (w1.setCell ⟨G.r, 6, none⟩ (.slice (some ⟨g, 0, none⟩) (s.evs.length + 1) cap)) (roleSet ρ g .erow) { G with evv := .slice (some ⟨g, 0, none⟩) (s.evs.length + 1) cap } { s with evs := s.evs ++ [e] } := by
  have k := grown_set hg .erow h.erowr G.r 6 h.runr (.slice (some ⟨g, 0, none⟩) (s.evs.length + 1) cap) (fun k x e => (h.dom k x e).2)
  have m := role_mono (role_ok h h.erowr hat)
  have hgr := role_ne h h.erowr hat (by simp)
  refine ⟨?_, m _ _ h.runr, grown_dom h hown hg, fun v c => h.ro v fun b hb => (c b (m _ _ hb)).trans (k b _ hb (by simp) (by simp)), own_keep h.arow fun b c => k b _ (h.arowr b c) (by simp) (by simp), fun b c => m _ _ (h.arowr b c), h.al, fun j b l e1 e2 => ⟨(k b _ (h.arr j b l e1 e2).2 (by simp) (by simp)).trans (h.arr j b l e1 e2).1, m _ _ (h.arr j b l e1 e2).2⟩, own_keep h.frow fun b c => k b _ (h.frowr b c) (by simp) (by simp), fun b c => m _ _ (h.frowr b c), h.fb, h.ft, fun i x c => ⟨(h.fr i x c).1, (k x.b _ (h.fr i x c).2.2 (by simp) (by simp)).trans (h.fr i x c).2.1, m _ _ (h.fr i x c).2.2⟩, ?_, ?_, ?_⟩
  · have hb : Blk w1 G.r 113 (G.cells s) := (hg.block G.r h.run.lt (fun c => by have := h.erowr G.r c.symm; rw [h.runr] at this; cases this)).trans h.run
    exact hb.put 6 _
  · have : (w1.setCell ⟨G.r, 6, none⟩ (.slice (some ⟨g, 0, none⟩) (s.evs.length + 1) cap)).ownsRow G.n0 52 2 (.slice (some ⟨g, 0, none⟩) (s.evs.length + 1) cap) (s.evs.length + 1) (s.evs.flatMap evC ++ evC e) := own_keep hown fun b c => Below.heap_setCell _ _ _ _ (fun c2 => by
      have c2 : b = G.r := c2
      simp only [Value.ownBlock, Option.some.injEq] at c; omega)
    simp only [List.flatMap_append, List.flatMap_cons, List.flatMap_nil, List.append_nil, List.length_append, List.length_cons, List.length_nil]
    exact this
  · intro b c; simp only [Value.ownBlock, Option.some.injEq] at c; subst c; exact role_self
  · exact Nat.le_trans h.n0 (Nat.le_trans hg.size (by simp [World.setCell]))
/-- One frame more; its variables lie in a block of its own. -/
theorem RunR.frApp (h : RunR w ρ G s) (t : FrG) (hx : G.gp.l[t.r.f]? = some t.x) (hvb : Blk w t.b 2 (intsC t.r.vars)) (hvr : ρ t.b = some (.var (G.bs.length + 1))) (hown : w1.ownsRow G.n0 119 8 (.slice (some ⟨g, 0, none⟩) (G.fs.length + 1) cap) (G.fs.length + 1) (G.fs.flatMap frC ++ frC t)) (hg : w.grownBy w1 G.frv.ownBlock) (hat : G.frv.ownBlock = some g ∨ g = w.heap.size) :
    RunR (w1.setCell ⟨G.r, 5, none⟩ (.slice (some ⟨g, 0, none⟩) (G.fs.length + 1) cap)) (roleSet ρ g .frow) { G with frv := .slice (some ⟨g, 0, none⟩) (G.fs.length + 1) cap, bs := G.fs, t := t } { s with base := s.base ++ [s.top], top := t.r } := by
  have k := grown_set hg .frow h.frowr G.r 5 h.runr (.slice (some ⟨g, 0, none⟩) (G.fs.length + 1) cap) (fun k x e => (h.dom k x e).2)
  have m := role_mono (role_ok h h.frowr hat)
  have hgr := role_ne h h.frowr hat (by simp)
  refine ⟨?_, m _ _ h.runr, grown_dom h hown hg, fun v c => h.ro v fun b hb => (c b (m _ _ hb)).trans (k b _ hb (by simp) (by simp)), own_keep h.arow fun b c => k b _ (h.arowr b c) (by simp) (by simp), fun b c => m _ _ (h.arowr b c), h.al, fun j b l e1 e2 => ⟨(k b _ (h.arr j b l e1 e2).2 (by simp) (by simp)).trans (h.arr j b l e1 e2).1, m _ _ (h.arr j b l e1 e2).2⟩, ?_, ?_, ?_, rfl, ?_, own_keep h.erow fun b c => k b _ (h.erowr b c) (by simp) (by simp), fun b c => m _ _ (h.erowr b c), ?_⟩
  · have hb : Blk w1 G.r 113 (G.cells s) := (hg.block G.r h.run.lt (fun c => by have := h.frowr G.r c.symm; rw [h.runr] at this; cases this)).trans h.run
    exact hb.put 5 _
  · have : (w1.setCell ⟨G.r, 5, none⟩ (.slice (some ⟨g, 0, none⟩) (G.fs.length + 1) cap)).ownsRow G.n0 119 8 (.slice (some ⟨g, 0, none⟩) (G.fs.length + 1) cap) (G.fs.length + 1) (G.fs.flatMap frC ++ frC t) := own_keep hown fun b c => Below.heap_setCell _ _ _ _ (fun c2 => by
      have c2 : b = G.r := c2
      simp only [Value.ownBlock, Option.some.injEq] at c; omega)
    show (w1.setCell _ _).ownsRow G.n0 119 8 _ (G.fs ++ [t]).length ((G.fs ++ [t]).flatMap frC)
    simp only [List.flatMap_append, List.flatMap_cons, List.flatMap_nil, List.append_nil, List.length_append, List.length_cons, List.length_nil]
    exact this
  · intro b c; simp only [Value.ownBlock, Option.some.injEq] at c; subst c; exact role_self
  · show G.fs.map (·.r) = s.base ++ [s.top]
    rw [RG.fs, List.map_append, h.fb, List.map_cons, h.ft, List.map_nil]
  · intro i x c
    rcases fs_cases (bs := G.fs) c with ⟨hi, c⟩ | ⟨rfl, rfl⟩
    · exact ⟨(h.fr i x c).1, (k x.b _ (h.fr i x c).2.2 (by simp) (by simp)).trans (h.fr i x c).2.1, m _ _ (h.fr i x c).2.2⟩
    · exact ⟨hx, (k x.b _ hvr (by simp) (by simp)).trans hvb, by rw [m _ _ hvr, RG.fs]; simp⟩
  · exact Nat.le_trans h.n0 (Nat.le_trans hg.size (by simp [World.setCell]))
end
theorem own_pop {base e size m g cap : Nat} {xs ys : List Value} (h : w.ownsRow base e size (.slice (some ⟨g, 0, none⟩) (m + 1) cap) (m + 1) (xs ++ ys)) (hx : xs.length = m * size) : w.ownsRow base e size (.slice (some ⟨g, 0, none⟩) m cap) m xs := by
  refine ⟨hx, ?_⟩
  rcases h.2 with ⟨c, _⟩ | ⟨g', cap', cur, hv, hb, hg, hn, hm, hs, ht⟩
  · cases c
  · injection hv with e1 _ e3
    injection e1 with e1; injection e1 with e1
    subst e1; subst e3
    refine Or.inr ⟨g, cap, cur, rfl, hb, hg, by omega, hm, hs, ?_⟩
    have e2 : m * size ≤ (m + 1) * size := Nat.mul_le_mul_right _ (by omega)
    have e3 : (cur.toList.take ((m + 1) * size)).take (m * size) = (xs ++ ys).take (m * size) := by rw [ht]
    rw [List.take_take, Nat.min_eq_left e2] at e3
    rw [e3, ← hx, List.take_left]
theorem frs_len (l : List FrG) : (l.flatMap frC).length = l.length * 8 := by
  induction l with
  | nil => rfl
  | cons a l ih => rw [List.flatMap_cons, List.length_append, ih, List.length_cons]; simp only [frC, List.length_cons, List.length_nil]; omega
/-- One frame less. -/
theorem RunR.pop (h : RunR w ρ G s) {bs : List FrG} {t : FrG} (hb : G.bs = bs ++ [t]) {g m cap : Nat} (hv : G.frv = .slice (some ⟨g, 0, none⟩) (m + 1) cap) : RunR (w.setCell ⟨G.r, 5, none⟩ (.slice (some ⟨g, 0, none⟩) m cap)) ρ { G with frv := .slice (some ⟨g, 0, none⟩) m cap, bs := bs, t := t } { s with base := s.base.dropLast, top := t.r } := by
  have k : But ρ .run w (w.setCell ⟨G.r, 5, none⟩ (.slice (some ⟨g, 0, none⟩) m cap)) := But.set h.runr _
  have hfs : G.fs = (bs ++ [t]) ++ [G.t] := by rw [RG.fs, hb]
  have hr := h.frow
  have hm : m + 1 = G.fs.length := by
    rcases hr.2 with ⟨e, _⟩ | ⟨_, _, _, e, _⟩
    · rw [hv] at e; cases e
    · rw [hv] at e; injection e
  have hml : m = (bs ++ [t]).length := by rw [hfs] at hm; simp at hm ⊢; omega
  refine ⟨h.run.put 5 _, h.runr, h.dom' k, h.ro' k (by simp), h.arow' k (by simp), h.arowr, h.al, h.arr' k (by simp), ?_, ?_, ?_, rfl, ?_, h.erow' k (by simp), h.erowr, h.n0' k⟩
  · have h1 := h.frow' k (by simp)
    rw [hv, ← hm, hfs, List.flatMap_append] at h1
    have := own_pop h1 (by rw [frs_len, ← hml])
    show (w.setCell _ _).ownsRow G.n0 119 8 _ (bs ++ [t]).length ((bs ++ [t]).flatMap frC)
    rw [← hml]; exact this
  · intro b c; exact h.frowr b (by rw [hv]; exact c)
  · show bs.map (·.r) = s.base.dropLast
    rw [← h.fb, hb, List.map_append]; simp
  · intro i x c
    have c : (bs ++ [t])[i]? = some x := c
    have hi := (List.getElem?_eq_some_iff.1 c).1
    exact h.fr' k (by simp) i x (by rw [hfs, List.getElem?_append_left hi]; exact c)
end
end Go.Proofs.YtgdibfnpkcdiiaaGreatDoor

/- Laws of runs: events come only behind; more input than is read changes nothing. By an AI agent. -/
namespace Go.Proofs.YtgdibfnpkcdiiaaGreatDoor
variable (D : Nat → Int → Int → Int)
theorem does_evs {p : PrW} (x : In) (s : MS) : ∃ l, (doesM D p x s).evs = s.evs ++ l := by
  have h0 : ∃ l, s.evs = s.evs ++ l := ⟨[], by simp⟩
  have hs : ∀ k n, ∃ l, (s.see k n).evs = s.evs ++ l := fun k n => ⟨_, rfl⟩
  have hr : ∀ n, ∃ l, (s.ret n).evs = s.evs ++ l := fun n => by unfold MS.ret; cases s.base.getLast? with | none => exact hs _ _ | some => exact h0
  have i1 : ∀ (c : Prop) [Decidable c] (a b : MS), (∃ l, a.evs = s.evs ++ l) → (∃ l, b.evs = s.evs ++ l) → ∃ l, (if c then a else b).evs = s.evs ++ l := fun c _ a b ha hb => by
    by_cases h : c
    · rw [if_pos h]; exact ha
    · rw [if_neg h]; exact hb
  have i2 : ∀ (o : Option Int) (f : Int → MS) (b : MS), (∀ n, ∃ l, (f n).evs = s.evs ++ l) → (∃ l, b.evs = s.evs ++ l) → ∃ l, (match o with | some n => f n | none => b).evs = s.evs ++ l := fun o f b ha hb => by
    cases o with
    | none => exact hb
    | some n => exact ha n
  unfold doesM
  exact i1 _ _ _ h0 (i1 _ _ _ h0 (i1 _ _ _ h0 (i1 _ _ _ (i2 _ _ _ (fun _ => h0) (hs _ _)) (i1 _ _ _ (i2 _ _ _ (fun _ => h0) (hs _ _)) (i1 _ _ _ (i2 _ _ _ (fun _ => h0) (hs _ _)) (i1 _ _ _ (i1 _ _ _ (hs _ _) h0) (i1 _ _ _ ⟨_, rfl⟩ (i1 _ _ _ (hs _ _) (i1 _ _ _ (hs _ _) (i1 _ _ _ h0 (i1 _ _ _ (hr _) (i1 _ _ _ h0 (i1 _ _ _ h0 h0)))))))))))))
theorem step_evs {p : PrW} (s : MS) : ∃ l, (stepM D p s).evs = s.evs ++ l := by
  unfold stepM
  split
  · exact ⟨[], by simp⟩
  · cases atM p s.top.f s.top.i with
    | none => exact ⟨[], by simp⟩
    | some x => exact does_evs D x s.tick
theorem run_evs {p : PrW} : ∀ (n : Nat) (s : MS), ∃ l, (runM D p n s).evs = s.evs ++ l
  | 0, s => ⟨[], by simp [runM]⟩
  | n + 1, s => by
    obtain ⟨l, h⟩ := step_evs D (p := p) s
    obtain ⟨m, k⟩ := run_evs n (stepM D p s)
    exact ⟨l ++ m, by rw [runM, k, h, List.append_assoc]⟩
/-- How many numbers were read. -/
def readsM (l : List (Nat × Int)) : Nat := (l.filter fun e => e.1 == 1).length
theorem reads_app (a b : List (Nat × Int)) : readsM (a ++ b) = readsM a + readsM b := by simp [readsM]
def MS.ext (s : MS) (m : List Int) : MS := { s with inp := s.inp ++ m }
theorem does_ext {p : PrW} {x : In} {s : MS} (m : List Int) (ho : 1 ≤ x.op ∧ x.op ≤ 14) (h : x.op = 8 → s.inp ≠ []) : doesM D p x (s.ext m) = (doesM D p x s).ext m := by
  have hcs : x.op = 1 ∨ x.op = 2 ∨ x.op = 3 ∨ x.op = 4 ∨ x.op = 5 ∨ x.op = 6 ∨ x.op = 7 ∨ x.op = 8 ∨ x.op = 9 ∨ x.op = 10 ∨ x.op = 11 ∨ x.op = 12 ∨ x.op = 13 ∨ x.op = 14 := by omega
  rcases hcs with e | e | e | e | e | e | e | e | e | e | e | e | e | e
  · rw [does_1 D e, does_1 D e]; rfl
  · rw [does_2 D e, does_2 D e]; rfl
  · rw [does_3 D e, does_3 D e]; rfl
  · rw [does_4 D e, does_4 D e]
    show (match s.cell x.arr (s.v x.a) with | some n => (s.ext m).put x.v n | none => (s.ext m).see 4 1) = _
    cases s.cell x.arr (s.v x.a) <;> rfl
  · rw [does_5 D e, does_5 D e]
    show (match s.cell x.arr (s.v x.a) with | some _ => (s.ext m).store x.arr (s.v x.a) (s.v x.b) | none => (s.ext m).see 4 1) = _
    cases s.cell x.arr (s.v x.a) <;> rfl
  · rw [does_6 D e, does_6 D e]
    show (match s.cell x.arr (s.v x.a) with | some _ => s.ext m | none => (s.ext m).see 4 1) = _
    cases s.cell x.arr (s.v x.a) <;> rfl
  · rw [does_7 D e, does_7 D e]
    show (if s.v x.a = 0 then (s.ext m).see 4 2 else s.ext m) = _
    split <;> rfl
  · rw [does_8 D e, does_8 D e]
    cases hi : s.inp with
    | nil => exact absurd hi (h e)
    | cons a l => simp [MS.read, MS.ext, hi, MS.put, MS.see]
  · rw [does_9 D e, does_9 D e]; rfl
  · rw [does_10 D e, does_10 D e]; rfl
  · rw [does_11 D e, does_11 D e]; rfl
  · rw [does_12 D e, does_12 D e]
    show (s.ext m).ret (s.v x.a) = _
    unfold MS.ret
    show (match s.base.getLast? with | none => _ | some g => _) = _
    cases s.base.getLast? <;> rfl
  · rw [does_13 D e, does_13 D e]; rfl
  · rw [does_14 D e, does_14 D e]
    show (if s.v x.a = 0 then (s.ext m).jump x.to else s.ext m) = _
    split <;> rfl
theorem read_grows {p : PrW} {x : In} {s : MS} (e : x.op = 8) : readsM (doesM D p x s).evs = readsM s.evs + 1 := by
  rw [does_8 D e]
  show readsM (s.evs ++ [(1, _)]) = _
  rw [reads_app]; rfl
theorem inp_reads {p : PrW} {x : In} {s : MS} (ho : 1 ≤ x.op ∧ x.op ≤ 14) : readsM s.evs + s.inp.length ≤ readsM (doesM D p x s).evs + (doesM D p x s).inp.length := by
  by_cases h8 : x.op = 8
  · rw [read_grows D h8, does_8 D h8]
    show _ ≤ readsM s.evs + 1 + s.inp.tail.length
    rw [List.length_tail]; omega
  · have hi : (doesM D p x s).inp = s.inp := by
      have hcs : x.op = 1 ∨ x.op = 2 ∨ x.op = 3 ∨ x.op = 4 ∨ x.op = 5 ∨ x.op = 6 ∨ x.op = 7 ∨ x.op = 9 ∨ x.op = 10 ∨ x.op = 11 ∨ x.op = 12 ∨ x.op = 13 ∨ x.op = 14 := by omega
      rcases hcs with e | e | e | e | e | e | e | e | e | e | e | e | e
      · rw [does_1 D e]; rfl
      · rw [does_2 D e]; rfl
      · rw [does_3 D e]; rfl
      · rw [does_4 D e]; cases s.cell x.arr (s.v x.a) <;> rfl
      · rw [does_5 D e]; cases s.cell x.arr (s.v x.a) <;> rfl
      · rw [does_6 D e]; cases s.cell x.arr (s.v x.a) <;> rfl
      · rw [does_7 D e]; split <;> rfl
      · rw [does_9 D e]; rfl
      · rw [does_10 D e]; rfl
      · rw [does_11 D e]; rfl
      · rw [does_12 D e]; unfold MS.ret; cases s.base.getLast? <;> rfl
      · rw [does_13 D e]; rfl
      · rw [does_14 D e]; split <;> rfl
    obtain ⟨l, hl⟩ := does_evs D (p := p) x s
    rw [hi, hl, reads_app]; omega
variable {D} in
/-- More input than is read changes nothing. -/
theorem run_more {p : PrW} (g : PrGood p) (hD : ∀ o a b, I64 (D o a b)) (hc : ∀ x : In, (∃ f ∈ p.fns, x ∈ f.code) → I64 x.n) (m : List Int) (L : Nat) : ∀ (n : Nat) (s : MS), MOk p s → L ≤ readsM s.evs + s.inp.length → readsM (runM D p n s).evs ≤ L → runM D p n (s.ext m) = (runM D p n s).ext m ∧ cntM D p n (s.ext m) = cntM D p n s
  | 0, s, _, _, _ => ⟨rfl, rfl⟩
  | n + 1, s, ok, h1, h2 => by
    cases he : s.ended with
    | true =>
      have he2 : (s.ext m).ended = true := he
      rw [run_ended D (n + 1) he, run_ended D (n + 1) he2, cnt_ended D (n + 1) he, cnt_ended D (n + 1) he2]; exact ⟨rfl, rfl⟩
    | false =>
      obtain ⟨fn, x, hf, hcx, hat, ho, hg, hvl, hnx⟩ := ok.inst g he
      have hs : stepM D p s = doesM D p x s.tick := by simp [stepM, he, hat]
      have hs2 : stepM D p (s.ext m) = doesM D p x (s.tick.ext m) := by
        have : stepM D p (s.ext m) = doesM D p x (s.ext m).tick := by
          have e1 : (s.ext m).ended = false := he
          have e2 : atM p (s.ext m).top.f (s.ext m).top.i = some x := hat
          unfold stepM
          rw [e1, e2]; rfl
        exact this
      have h3 : L ≤ readsM (stepM D p s).evs + (stepM D p s).inp.length := by
        rw [hs]; exact Nat.le_trans h1 (inp_reads D (s := s.tick) ho.op)
      have h4 : x.op = 8 → s.tick.inp ≠ [] := fun e c => by
        have c : s.inp = [] := c
        obtain ⟨l, hl⟩ := run_evs D (p := p) n (stepM D p s)
        have h5 : readsM (stepM D p s).evs = readsM s.evs + 1 := by rw [hs]; exact read_grows D e
        rw [runM, hl, reads_app, h5] at h2
        rw [c] at h1; simp at h1; omega
      have h6 : stepM D p (s.ext m) = (stepM D p s).ext m := by rw [hs, hs2]; exact does_ext D m ho.op h4
      obtain ⟨r1, r2⟩ := run_more g hD hc m L n (stepM D p s) (step_ok D ok g hD hc) h3 h2
      refine ⟨?_, ?_⟩
      · rw [runM, h6, r1]; rfl
      · have e1 : (s.ext m).ended = false := he
        simp only [cntM, he, e1, Bool.false_eq_true, if_false]
        rw [h6, r2]
variable {D} in
theorem steps_cnt {p : PrW} (g : PrGood p) (hD : ∀ o a b, I64 (D o a b)) (hc : ∀ x : In, (∃ f ∈ p.fns, x ∈ f.code) → I64 x.n) : ∀ (n : Nat) (s : MS), MOk p s → (runM D p n s).steps = s.steps + cntM D p n s
  | 0, s, _ => rfl
  | n + 1, s, ok => by
    cases he : s.ended with
    | true => rw [run_ended D (n + 1) he, cnt_ended D (n + 1) he]; rfl
    | false =>
      obtain ⟨fn, x, hf, hcx, hat, ho, hg, hvl, hnx⟩ := ok.inst g he
      have hs : stepM D p s = doesM D p x s.tick := by simp [stepM, he, hat]
      have := steps_cnt g hD hc n (stepM D p s) (step_ok D ok g hD hc)
      rw [runM, this]
      simp only [cntM, he, Bool.false_eq_true, if_false]
      have e : (stepM D p s).steps = s.steps + 1 := by rw [hs, doesM_steps]; rfl
      rw [e]; omega
end Go.Proofs.YtgdibfnpkcdiiaaGreatDoor
