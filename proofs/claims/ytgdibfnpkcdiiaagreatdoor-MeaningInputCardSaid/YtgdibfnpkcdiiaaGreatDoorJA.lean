/- Joint text: HSpec, HMem, HFew, HOneA, HText, HReg, HChn, HIdx. By an AI agent. -/
import Derived.Lib.Hide
import Derived.RowKit
import Derived.Test.YtgdibfnpkcdiiaaGreatDoorRows
import Derived.WalkKit
import Derived.WalkSpells
import Derived.WalkLawsBesides
import Derived.BigQuiet
import Derived.Deep.QuietTactic
import Derived.Deep.RegionHeld3
import Derived.Laws.EntriesVeiled
import Derived.BigCall
import Derived.BigGuard
import Derived.Deep.LoopGhost
import Derived.Calls
import Derived.Lib.ItoaMem
import Derived.Orders
import Derived.Below
import Derived.Tactics2
/- Programs of three, as plain data: when one is right, its text, when two are the same. By an AI agent. -/
namespace Go.Proofs.YtgdibfnpkcdiiaaGreatDoor

/-- An instruction. -/
structure In where
  op : Nat := 0
  v : Int := 0
  a : Int := 0
  b : Int := 0
  n : Int := 0
  bin : Nat := 0
  args : List Int := []
  f : Int := 0
  arr : Int := 0
  to : Int := 0
  deriving DecidableEq
structure FnP where
  name : List UInt8
  params : Int
  vars : Int
  code : List In
  deriving DecidableEq
structure PrW where
  arrays : List Int
  fns : List FnP
  main : Int
  deriving DecidableEq
def hasV (o : Nat) : Bool := o == 1 || o == 2 || o == 3 || o == 4 || o == 8 || o == 11
def hasA (o : Nat) : Bool := o == 2 || o == 3 || o == 4 || o == 5 || o == 6 || o == 7 || o == 9 || o == 10 || o == 12 || o == 14
def hasB (o : Nat) : Bool := o == 3 || o == 5
def hasN (o : Nat) : Bool := o == 1
def hasO (o : Nat) : Bool := o == 3
def hasG (o : Nat) : Bool := o == 11
def hasR (o : Nat) : Bool := o == 4 || o == 5 || o == 6
def hasT (o : Nat) : Bool := o == 13 || o == 14
def binsW : List Nat := [1, 2, 3, 4, 5, 8, 9, 10, 11, 13, 14, 16]
def fitsW (has : Bool) (n many : Int) : Bool := decide (0 ≤ n) && (if has then decide (n < many) else decide (n = 0))
def manyW (p : PrW) (x : In) : Int := if hasG x.op then ((p.fns[x.f.toNat]?).map (·.params)).getD 0 else 0
def oneW (p : PrW) (f : FnP) (x : In) : Bool :=
  decide (1 ≤ x.op ∧ x.op ≤ 14) && fitsW (hasV x.op) x.v f.vars && fitsW (hasA x.op) x.a f.vars && fitsW (hasB x.op) x.b f.vars && fitsW (hasG x.op) x.f p.fns.length && fitsW (hasR x.op) x.arr p.arrays.length && fitsW (hasT x.op) x.to f.code.length
  && ((hasN x.op || decide (x.n = 0)) && (if hasO x.op then decide (x.bin ∈ binsW) else decide (x.bin = 0)) && decide ((x.args.length : Int) = manyW p x) && x.args.all (fun v => decide (0 ≤ v ∧ v < f.vars)))
def endsW (f : FnP) : Bool := match f.code.getLast? with | none => false | some x => decide (x.op = 12)
def fnW (p : PrW) (f : FnP) : Bool :=
  decide (0 ≤ f.params ∧ f.params ≤ 6 ∧ f.params ≤ f.vars ∧ f.vars ≤ 200 ∧ f.code.length ≤ 8000) && endsW f && f.code.all (oneW p f)
def mainW' (p : PrW) : Bool := decide (0 ≤ p.main ∧ p.main < p.fns.length) && decide (((p.fns[p.main.toNat]?).map (·.params)).getD 0 = 0)
def rightW (p : PrW) : Bool :=
  decide (p.arrays.length ≤ 16 ∧ p.fns.length ≤ 64) && mainW' p && p.arrays.all (fun n => decide (1 ≤ n ∧ n ≤ 4096)) && p.fns.all (fnW p)
def numbersW (x : In) : List Int := [(x.op : Int), x.v, x.a, x.b, x.n, (x.bin : Int), x.f, x.arr, x.to] ++ x.args
theorem numbers_inj {x y : In} (h : numbersW x = numbersW y) : x = y := by
  obtain ⟨o, v, a, b, n, bi, ar, f, r, t⟩ := x
  obtain ⟨o', v', a', b', n', bi', ar', f', r', t'⟩ := y
  simp only [numbersW, List.cons_append, List.nil_append, List.cons.injEq] at h
  obtain ⟨h1, h2, h3, h4, h5, h6, h7, h8, h9, h10⟩ := h
  have e1 : o = o' := by omega
  have e2 : bi = bi' := by omega
  subst e1 e2 h2 h3 h4 h5 h7 h8 h9 h10
  rfl
/-- Is it small enough for the statement? -/
def fewIns (l : List In) : Bool := l.all fun x => decide (x.args.length ≤ 20)
def fewGo (n : Nat) : List FnP → Bool
  | [] => true
  | f :: l => decide (n + f.code.length ≤ 300) && decide (f.name.length ≤ 50) && fewIns f.code && fewGo (n + f.code.length) l
def fewW (p : PrW) : Bool := decide (p.arrays.length ≤ 30) && decide (p.fns.length ≤ 70) && fewGo 0 p.fns
end Go.Proofs.YtgdibfnpkcdiiaaGreatDoor

/- Programs of three in memory: what a value must read as. By an AI agent. -/
namespace Go.Proofs.YtgdibfnpkcdiiaaGreatDoor
open Go.RowKit

theorem ret_b {a b : Bool} (h : a = b) : Ending.returned (.bool a) = Ending.returned (.bool b) := by rw [h]
theorem below_next {w w1 w2 : World} (h : Below w.heap.size w w1) (h' : Below w1.heap.size w1 w2) : Below w.heap.size w w2 := h.trans (h'.mono h.size)
theorem cell_lt' {w : World} {a : Addr} {v : Value} (h : w.cell? a = some v) : a.block < w.heap.size := by
  unfold World.cell? at h
  cases hb : w.heap[a.block]? with
  | none => simp [hb] at h
  | some o => exact (Array.getElem?_eq_some_iff.1 hb).1
theorem get_b {w w' : World} (hb : Below w.heap.size w w') {a : Addr} {v : Value} (h : w.cell? a = some v) : w'.cell? a = some v := (hb.cell (p := a) (cell_lt' h)).trans h

/-- A block that is known whole, none of its cells frozen. -/
def Blk (W : World) (g : Nat) (t : TypeId) (cs : Array Value) : Prop := W.heap[g]? = some (.cells cs t (0, 0))
section
variable {W W' : World} {g : Nat} {t : TypeId} {cs : Array Value}
theorem Blk.lt (h : Blk W g t cs) : g < W.heap.size := by
  rcases Nat.lt_or_ge g W.heap.size with hlt | hge
  · exact hlt
  · unfold Blk at h; rw [Array.getElem?_eq_none hge] at h; cases h
theorem Blk.cell (h : Blk W g t cs) (i : Nat) : W.cell? ⟨g, i, none⟩ = cs[i]? := by
  unfold Blk at h; unfold World.cell?; simp [h]
theorem Blk.free (h : Blk W g t cs) (i : Nat) : W.frozen? ⟨g, i, none⟩ = false := by
  unfold Blk at h; simp [World.frozen?, h]
theorem Blk.new (W : World) (t : TypeId) (cs : Array Value) : Blk (W.alloc (.cells cs t)) W.heap.size t cs := heap_alloc_new W _
theorem Blk.below (h : Blk W g t cs) (hb : Below W.heap.size W W') : Blk W' g t cs := (hb.block g h.lt).trans h
theorem Blk.alloc (h : Blk W g t cs) (o : Obj) : Blk (W.alloc o) g t cs := h.below ((Below.refl _ _).alloc (Nat.le_refl _) _)
theorem Blk.put (h : Blk W g t cs) (i : Nat) (u : Value) : Blk (W.setCell ⟨g, i, none⟩ u) g t (cs.setIfInBounds i u) := by
  unfold Blk at h ⊢
  simp [World.setCell, Array.getElem?_modify, h]
theorem Blk.far (h : Blk W g t cs) {g' : Nat} (hne : g ≠ g') (i : Nat) (u : Value) : Blk (W.setCell ⟨g', i, none⟩ u) g t cs := (Below.heap_setCell W ⟨g', i, none⟩ u g hne).trans h
end

/-- A slice of so many rows of z cells, each of which reads as it must. -/
def RowsV {α : Type} (z : Nat) (R : World → Nat → Nat → α → Prop) (w : World) (v : Value) (l : List α) : Prop :=
  ∃ A c, v = .slice A l.length c ∧ l.length ≤ c ∧ (l = [] ∨ ∃ b o, A = some ⟨b, o, none⟩ ∧ ∀ i x, l[i]? = some x → R w b (o + i * z) x)
def intAt (w : World) (b o : Nat) (k : Int) : Prop := w.cell? ⟨b, o, none⟩ = some (.int .i64 k)
def IntsV (w : World) (v : Value) (ks : List Int) : Prop := RowsV 1 intAt w v ks
/-- An instruction, and the value of its arguments' slice. -/
abbrev InV := In × Value
def insV (g : InV) : Value := .agg #[.int .u8 g.1.op, .int .i64 g.1.v, .int .i64 g.1.a, .int .i64 g.1.b, .int .i64 g.1.n, .int .u8 g.1.bin, g.2, .int .i64 g.1.f, .int .i64 g.1.arr, .int .i64 g.1.to]
structure insAt (w : World) (b o : Nat) (g : InV) : Prop where
  c0 : w.cell? ⟨b, o, none⟩ = some (.int .u8 g.1.op)
  c1 : w.cell? ⟨b, o + 1, none⟩ = some (.int .i64 g.1.v)
  c2 : w.cell? ⟨b, o + 2, none⟩ = some (.int .i64 g.1.a)
  c3 : w.cell? ⟨b, o + 3, none⟩ = some (.int .i64 g.1.b)
  c4 : w.cell? ⟨b, o + 4, none⟩ = some (.int .i64 g.1.n)
  c5 : w.cell? ⟨b, o + 5, none⟩ = some (.int .u8 g.1.bin)
  c6 : w.cell? ⟨b, o + 6, none⟩ = some g.2
  c7 : w.cell? ⟨b, o + 7, none⟩ = some (.int .i64 g.1.f)
  c8 : w.cell? ⟨b, o + 8, none⟩ = some (.int .i64 g.1.arr)
  c9 : w.cell? ⟨b, o + 9, none⟩ = some (.int .i64 g.1.to)
  args : IntsV w g.2 g.1.args
def InsV (w : World) (v : Value) (l : List InV) : Prop := RowsV 10 insAt w v l
/-- A function, the value of its code's slice, and what lies there. -/
structure FnG where
  fn : FnP
  cv : Value
  l : List InV
def fnV (g : FnG) : Value := .agg #[.string ⟨g.fn.name.toArray⟩, .int .i64 g.fn.params, .int .i64 g.fn.vars, g.cv]
structure fnAt (w : World) (b o : Nat) (g : FnG) : Prop where
  c0 : w.cell? ⟨b, o, none⟩ = some (.string ⟨g.fn.name.toArray⟩)
  c1 : w.cell? ⟨b, o + 1, none⟩ = some (.int .i64 g.fn.params)
  c2 : w.cell? ⟨b, o + 2, none⟩ = some (.int .i64 g.fn.vars)
  c3 : w.cell? ⟨b, o + 3, none⟩ = some g.cv
  code : InsV w g.cv g.l
  eq : g.l.map (·.1) = g.fn.code
def FnsV (w : World) (v : Value) (l : List FnG) : Prop := RowsV 4 fnAt w v l
/-- A program: the values of its slices, what lies there. -/
structure PrG where
  p : PrW
  av : Value
  fv : Value
  l : List FnG
def prV (g : PrG) : Value := .agg #[g.av, g.fv, .int .i64 g.p.main]
structure PrR (w : World) (g : PrG) : Prop where
  arrays : IntsV w g.av g.p.arrays
  fns : FnsV w g.fv g.l
  eq : g.l.map (·.fn) = g.p.fns

theorem RowsV.mono {α : Type} {z : Nat} {R R' : World → Nat → Nat → α → Prop} {w w' : World} {v : Value} {l : List α} (h : RowsV z R w v l) (k : ∀ b o x, x ∈ l → R w b o x → R' w' b o x) : RowsV z R' w' v l := by
  obtain ⟨A, c, e, hc, h⟩ := h
  refine ⟨A, c, e, hc, h.imp id fun ⟨b, o, e, h⟩ => ⟨b, o, e, fun i x hx => k _ _ _ (List.mem_of_getElem? hx) (h i x hx)⟩⟩
section
variable {w w' : World} {v : Value}
theorem IntsV.below {ks : List Int} (h : IntsV w v ks) (hb : Below w.heap.size w w') : IntsV w' v ks := RowsV.mono h fun _ _ _ _ h => get_b hb h
theorem insAt.below {b o : Nat} {g : InV} (h : insAt w b o g) (hb : Below w.heap.size w w') : insAt w' b o g :=
  ⟨get_b hb h.c0, get_b hb h.c1, get_b hb h.c2, get_b hb h.c3, get_b hb h.c4, get_b hb h.c5, get_b hb h.c6, get_b hb h.c7, get_b hb h.c8, get_b hb h.c9, h.args.below hb⟩
theorem InsV.below {l : List InV} (h : InsV w v l) (hb : Below w.heap.size w w') : InsV w' v l := RowsV.mono h fun _ _ _ _ h => h.below hb
theorem fnAt.below {b o : Nat} {g : FnG} (h : fnAt w b o g) (hb : Below w.heap.size w w') : fnAt w' b o g := ⟨get_b hb h.c0, get_b hb h.c1, get_b hb h.c2, get_b hb h.c3, h.code.below hb, h.eq⟩
theorem FnsV.below {l : List FnG} (h : FnsV w v l) (hb : Below w.heap.size w w') : FnsV w' v l := RowsV.mono h fun _ _ _ _ h => h.below hb
theorem PrR.below {g : PrG} (h : PrR w g) (hb : Below w.heap.size w w') : PrR w' g := ⟨h.arrays.below hb, h.fns.below hb, h.eq⟩
end
end Go.Proofs.YtgdibfnpkcdiiaaGreatDoor

/- few: is a program small enough? By an AI agent. -/
namespace Go.Proofs.YtgdibfnpkcdiiaaGreatDoor
open Go.RowKit

theorem fewIns_drop {l : List In} {i : Nat} (h : i < l.length) : fewIns (l.drop i) = (decide ((l[i]).args.length ≤ 20) && fewIns (l.drop (i + 1))) := by
  rw [List.drop_eq_getElem_cons h]; rfl
theorem fewGo_drop {l : List FnP} {i n : Nat} (h : i < l.length) : fewGo n (l.drop i) = (decide (n + (l[i]).code.length ≤ 300) && decide ((l[i]).name.length ≤ 50) && fewIns (l[i]).code && fewGo (n + (l[i]).code.length) (l.drop (i + 1))) := by
  rw [List.drop_eq_getElem_cons h]; rfl

set_option maxRecDepth 100000 in
set_option maxHeartbeats 8000000 in
theorem few_any (g : PrG) (w : World) (h : PrR w g) : Calls Tryz.prog 11 #[prV g] w fun e w' => e = .returned (.bool (fewW g.p)) ∧ Below w.heap.size w w' := by
  obtain ⟨p, av, fv, l⟩ := g
  obtain ⟨ha, hf, he⟩ := h
  obtain ⟨A, ca, hav, hca, _⟩ := ha
  obtain ⟨F, cf, hfv, hcf, hf⟩ := hf
  dsimp only at hav hfv hcf hf he hca
  subst hav; subst hfv
  obtain ⟨na, hna⟩ : ∃ n, n = p.arrays.length := ⟨_, rfl⟩
  obtain ⟨nl, hnl⟩ : ∃ n, n = l.length := ⟨_, rfl⟩
  have hfl : p.fns.length = nl := by rw [← he, List.length_map, hnl]
  have HNA := Lib.hid hna; have HNL := Lib.hid hnl; have HE := Lib.hid he
  have hb0 : Below w.heap.size w (w.alloc (.cells #[.slice A na ca, .slice F nl cf, .int .i64 p.main] 25)) := (Below.refl _ _).alloc (Nat.le_refl _) _
  have HB0 := Lib.hid hb0
  have HF := Lib.hid (show l = [] ∨ ∃ b o, F = some ⟨b, o, none⟩ ∧ ∀ i x, l[i]? = some x → fnAt (w.alloc (.cells #[.slice A na ca, .slice F nl cf, .int .i64 p.main] 25)) b (o + i * 4) x from hf.imp id fun ⟨b, o, e, k⟩ => ⟨b, o, e, fun i x hx => (k i x hx).below hb0⟩)
  unfold prV
  dsimp only
  rw [← hna, ← hnl]
  have hfew : fewW p = (decide (na ≤ 30) && decide (nl ≤ 70) && fewGo 0 p.fns) := by rw [fewW, ← hna, hfl]
  have HFEW := Lib.hid hfew
  clear hf hna hnl he hb0 hfew hca hcf
  go_enter Tryz.func11, Tryz.ntmps11
  by_cases h1 : na ≤ 30
  case neg =>
    have q1 : decide ((30 : Int) < (na : Int)) = true := decide_eq_true (by omega)
    go_wp2_with fail
    go_ret
    exact ⟨ret_b (by rw [HFEW.out, decide_eq_false h1]; rfl), HB0.out⟩
  case pos =>
    have q1 : decide ((30 : Int) < (na : Int)) = false := decide_eq_false (by omega)
    by_cases h2 : nl ≤ 70
    case neg =>
      have q2 : decide ((70 : Int) < (nl : Int)) = true := decide_eq_true (by omega)
      go_wp2_with fail
      go_ret
      exact ⟨ret_b (by rw [HFEW.out, decide_eq_false h2]; simp), HB0.out⟩
    case pos =>
      have q2 : decide ((70 : Int) < (nl : Int)) = false := decide_eq_false (by omega)
      go_wp2_with fail
      have k0 : (w.alloc (.cells #[.slice A na ca, .slice F nl cf, .int .i64 p.main] 25)).cell? ⟨w.heap.size, 0, none⟩ = some (.slice A na ca) := (Blk.new w 25 #[.slice A na ca, .slice F nl cf, .int .i64 p.main]).cell 0
      have k1 : (w.alloc (.cells #[.slice A na ca, .slice F nl cf, .int .i64 p.main] 25)).cell? ⟨w.heap.size, 1, none⟩ = some (.slice F nl cf) := (Blk.new w 25 #[.slice A na ca, .slice F nl cf, .int .i64 p.main]).cell 1
      go_loopg [3, 4] nl (fun gk v3 v4 wr => ∃ i m : Nat, i ≤ nl ∧ nl - i ≤ gk ∧ v4 = .int .i64 i ∧ m ≤ 300 ∧ v3 = .int .i64 m ∧ wr = w.alloc (.cells #[.slice A na ca, .slice F nl cf, .int .i64 p.main] 25) ∧ Hid (fewGo 0 p.fns = fewGo m (p.fns.drop i)))
      case atStart => exact ⟨0, 0, Nat.zero_le _, Nat.le_refl _, rfl, by omega, rfl, rfl, Lib.hid rfl⟩
      case round =>
        obtain ⟨i, m, hi, hgk, rfl, hm, rfl, rfl, HG⟩ := hrel
        by_cases hlt : i < nl
        case neg =>
          have q3 : decide ((i : Int) < (nl : Int)) = false := decide_eq_false (by omega)
          have hyes : fewGo 0 p.fns = true := by
            rw [HG.out, List.drop_of_length_le (by rw [hfl]; omega)]; rfl
          have HY := Lib.hid hyes
          clear hyes
          go_wp2_with fail
          go_ret
          exact ⟨ret_b (by rw [HFEW.out, decide_eq_true h1, decide_eq_true h2, HY.out]; rfl), HB0.out⟩
        case pos =>
          have q3 : decide ((i : Int) < (nl : Int)) = true := decide_eq_true (by omega)
          have hil : i < l.length := by rw [← HNL.out]; exact hlt
          obtain ⟨x, hx⟩ : ∃ x, l[i]? = some x := ⟨_, List.getElem?_eq_getElem hil⟩
          have hfi : i < p.fns.length := by rw [hfl]; exact hlt
          have hxf : p.fns[i] = x.fn := by
            have : (l.map (·.fn))[i]? = some x.fn := by rw [List.getElem?_map, hx]; rfl
            rw [HE.out, List.getElem?_eq_getElem hfi] at this
            injection this
          have hdrop := fewGo_drop (n := m) hfi
          rw [hxf] at hdrop
          obtain ⟨b, o, rfl, hat⟩ : ∃ b o, F = some ⟨b, o, none⟩ ∧ fnAt (w.alloc (.cells #[.slice A na ca, .slice F nl cf, .int .i64 p.main] 25)) b (o + i * 4) x := by
            rcases HF.out with rfl | ⟨b, o, e, k⟩
            · simp at hx
            · exact ⟨b, o, e, k i x hx⟩
          obtain ⟨x0, x1, x2, x3, xc, xe⟩ := hat
          obtain ⟨C, cc, hxv, hcc, xr⟩ := xc
          rw [hxv] at x3
          have lb := cell_lt' x0
          obtain ⟨nc, hnc⟩ : ∃ n, n = x.l.length := ⟨_, rfl⟩
          have hcl : x.fn.code.length = nc := by rw [← xe, List.length_map, hnc]
          rw [hcl] at hdrop
          rw [← hnc] at x3
          have HD := Lib.hid hdrop; have HXE := Lib.hid xe; have HNC := Lib.hid hnc; have HXR := Lib.hid xr; have HHX := Lib.hid hx
          obtain ⟨nt, hnt⟩ : ∃ n, n = x.fn.name.length := ⟨_, rfl⟩
          have hts : (⟨x.fn.name.toArray⟩ : ByteArray).size = nt := by rw [hnt]; simp [ByteArray.size]
          have HNT := Lib.hid hnt
          clear hdrop xe hnc xr hx hxv hcc hnt hxf HF
          by_cases h4 : m + nc ≤ 300
          case neg =>
            have q4 : decide ((300 : Int) - (m : Int) < (nc : Int)) = true := decide_eq_true (by omega)
            go_wp2_with fail
            go_ret
            exact ⟨ret_b (by rw [HFEW.out, HG.out, HD.out, decide_eq_false h4]; simp), HB0.out⟩
          case pos =>
            have q4 : decide ((300 : Int) - (m : Int) < (nc : Int)) = false := decide_eq_false (by omega)
            by_cases h5 : nt ≤ 50
            case neg =>
              have q5 : decide ((50 : Int) < (nt : Int)) = true := decide_eq_true (by omega)
              go_wp2_with fail
              go_ret
              exact ⟨ret_b (by rw [HFEW.out, HG.out, HD.out, ← HNT.out, decide_eq_false h5]; simp), HB0.out⟩
            case pos =>
              have q5 : decide ((50 : Int) < (nt : Int)) = false := decide_eq_false (by omega)
              go_wp2_with fail
              obtain ⟨ko, hko⟩ : ∃ ko, gk = ko + 1 := ⟨gk - 1, by omega⟩
              subst hko
              go_loopg [5] nc (fun gk v5 wr => ∃ k : Nat, k ≤ nc ∧ nc - k ≤ gk ∧ v5 = .int .i64 k ∧ wr = (w.alloc (.cells #[.slice A na ca, .slice (some ⟨b, o, none⟩) nl cf, .int .i64 p.main] 25)) ∧ Hid (fewIns x.fn.code = fewIns (x.fn.code.drop k)))
              case atStart => exact ⟨0, Nat.zero_le _, Nat.le_refl _, rfl, rfl, Lib.hid rfl⟩
              case round =>
                obtain ⟨k, hk, hgk2, rfl, rfl, HI⟩ := hrel
                by_cases hlk : k < nc
                case neg =>
                  have q6 : decide ((k : Int) < (nc : Int)) = false := decide_eq_false (by omega)
                  have hall : fewIns x.fn.code = true := by rw [HI.out, List.drop_of_length_le (by omega)]; rfl
                  have HG2 := Lib.hid (show fewGo 0 p.fns = fewGo (m + nc) (p.fns.drop (i + 1)) by rw [HG.out, HD.out, hall, ← HNT.out, decide_eq_true h4, decide_eq_true h5]; simp)
                  clear hall
                  go_wp2_with fail
                  go_roundg ko
                  case measure => omega
                  case rel => exact ⟨i + 1, m + nc, by omega, by omega, by simp, by omega, by simp, rfl, HG2⟩
                case pos =>
                  have q6 : decide ((k : Int) < (nc : Int)) = true := decide_eq_true (by omega)
                  have hkl : k < x.l.length := by rw [← HNC.out]; exact hlk
                  obtain ⟨y, hy⟩ : ∃ y, x.l[k]? = some y := ⟨_, List.getElem?_eq_getElem hkl⟩
                  have hkc : k < x.fn.code.length := by omega
                  have hyf : x.fn.code[k] = y.1 := by
                    have : (x.l.map (·.1))[k]? = some y.1 := by rw [List.getElem?_map, hy]; rfl
                    rw [HXE.out, List.getElem?_eq_getElem hkc] at this
                    injection this
                  have hdr := fewIns_drop hkc
                  rw [hyf] at hdr
                  obtain ⟨b2, o2, rfl, hat⟩ : ∃ b2 o2, C = some ⟨b2, o2, none⟩ ∧ insAt (w.alloc (.cells #[.slice A na ca, .slice (some ⟨b, o, none⟩) nl cf, .int .i64 p.main] 25)) b2 (o2 + k * 10) y := by
                    rcases HXR.out with e | ⟨b2, o2, e, q⟩
                    · rw [e] at hy; simp at hy
                    · exact ⟨b2, o2, e, q k y hy⟩
                  obtain ⟨y0, y1, y2, y3, y4, y5, y6, y7, y8, y9, ya⟩ := hat
                  obtain ⟨D, cd, hyv, hcd, yr⟩ := ya
                  rw [hyv] at y6
                  have lb2 := cell_lt' y0
                  obtain ⟨ng, hng⟩ : ∃ n, n = y.1.args.length := ⟨_, rfl⟩
                  rw [← hng] at y6 hdr
                  have HDR := Lib.hid hdr
                  clear hdr hyv hcd yr hy hyf hng
                  by_cases h6 : ng ≤ 20
                  case neg =>
                    have q7 : decide ((20 : Int) < (ng : Int)) = true := decide_eq_true (by omega)
                    go_wp2_with fail
                    go_ret
                    exact ⟨ret_b (by rw [HFEW.out, HG.out, HD.out, HI.out, HDR.out, decide_eq_false h6]; simp), HB0.out⟩
                  case pos =>
                    have q7 : decide ((20 : Int) < (ng : Int)) = false := decide_eq_false (by omega)
                    have HI2 := Lib.hid (show fewIns x.fn.code = fewIns (x.fn.code.drop (k + 1)) by rw [HI.out, HDR.out, decide_eq_true h6]; rfl)
                    go_wp2_with fail
                    cases gk with
                    | zero => omega
                    | succ gk =>
                      go_roundg gk
                      case measure => omega
                      case rel => exact ⟨k + 1, by omega, by omega, by simp, rfl, HI2⟩
end Go.Proofs.YtgdibfnpkcdiiaaGreatDoor

/- Small functions of three and of the document's: fits, may, bins, Bins, has, slices.Index. By an AI agent. -/
namespace Go.Proofs.YtgdibfnpkcdiiaaGreatDoor
open Go.RowKit

set_option maxHeartbeats 1000000 in
theorem fits_any (has : Bool) (n many : Int) (w : World) : Calls Tryz.prog 111 #[.bool has, .int .i64 n, .int .i64 many] w fun e w' => e = .returned (.bool (fitsW has n many)) ∧ w = w' := by
  unfold fitsW
  cases has
  all_goals by_cases h0 : 0 ≤ n
  all_goals by_cases h1 : n < many
  all_goals by_cases h2 : n = 0
  all_goals go_enter Tryz.func111, Tryz.ntmps111
  all_goals go_wp2_with fail
  all_goals go_ret
  all_goals exact ⟨ret_b (by simp [h0, h1, h2] <;> omega), rfl⟩

set_option maxHeartbeats 1000000 in
theorem may_any (has : Bool) (n many : Int) (w : World) : Calls Tryz.prog 115 #[.bool has, .int .i64 n, .int .i64 many] w fun e w' => e = .returned (.bool (fitsW has n many)) ∧ w = w' := by
  unfold fitsW
  cases has
  all_goals by_cases h0 : 0 ≤ n
  all_goals by_cases h1 : n < many
  all_goals by_cases h2 : n = 0
  all_goals go_enter Tryz.func115, Tryz.ntmps115
  all_goals go_wp2_with fail
  all_goals go_ret
  all_goals exact ⟨ret_b (by simp [h0, h1, h2] <;> omega), rfl⟩
theorem bins_mem (o : Nat) : o ∈ binsW ↔ (o = 1 ∨ o = 2 ∨ o = 3 ∨ o = 4 ∨ o = 5 ∨ o = 8 ∨ o = 9 ∨ o = 10 ∨ o = 11 ∨ o = 13 ∨ o = 14 ∨ o = 16) := by simp [binsW]
set_option maxHeartbeats 1000000 in
theorem rbins_any (o : Nat) (w : World) : Calls Tryz.prog 117 #[.int .u8 o] w fun e w' => e = .returned (.bool (decide (o ∈ binsW))) ∧ w = w' := by
  go_enter Tryz.func117, Tryz.ntmps117
  go_wp2_with fail
  all_goals go_ret
  all_goals refine ⟨ret_b ?_, rfl⟩
  all_goals rw [Bool.eq_iff_iff, decide_eq_true_eq, bins_mem]
  all_goals first | (simp only [Bool.or_eq_true, decide_eq_true_eq, beq_iff_eq]; omega) | (simp only [true_iff]; omega)
/-- A slice of operations. -/
def opAt (w : World) (b o : Nat) (k : Nat) : Prop := w.cell? ⟨b, o, none⟩ = some (.int .u8 k)
def OpsV (w : World) (v : Value) (l : List Nat) : Prop := RowsV 1 opAt w v l
set_option maxHeartbeats 2000000 in
theorem index_any (v : Value) (l : List Nat) (x : Nat) (w : World) (h : OpsV w v l) (hl : l.length ≤ 1000000) : Calls Tryz.prog 178 #[v, .int .u8 x] w fun e w' => (∃ n : Int, e = .returned (.int .i64 n) ∧ (0 ≤ n ↔ x ∈ l)) ∧ w = w' := by
  obtain ⟨A, c, rfl, hc, h⟩ := h
  obtain ⟨n, hn⟩ : ∃ n, n = l.length := ⟨_, rfl⟩
  rw [← hn]
  have H := Lib.hid h; have HN := Lib.hid hn; have HLL := Lib.hid hl
  clear h hn hc hl
  go_enter Tryz.func178, Tryz.ntmps178
  go_wp2_with fail
  go_loopg [8] n (fun gk v wr => ∃ i : Nat, i ≤ n ∧ n - i ≤ gk ∧ v = .int .i64 i ∧ wr = w ∧ Hid (x ∉ l.take i))
  case atStart => exact ⟨0, Nat.zero_le _, Nat.le_refl _, rfl, rfl, Lib.hid (by simp)⟩
  case round =>
    obtain ⟨i, hi, hgk, rfl, rfl, HI⟩ := hrel
    by_cases hlt : i < n
    case neg =>
      have q : decide ((i : Int) < (n : Int)) = false := decide_eq_false (by omega)
      go_wp2_with fail
      go_ret
      refine ⟨⟨-1, rfl, ⟨fun h => absurd h (by omega), fun h => absurd h ?_⟩⟩, rfl⟩
      have := HI.out
      rwa [List.take_of_length_le (by have := HN.out; omega)] at this
    case pos =>
      have q : decide ((i : Int) < (n : Int)) = true := decide_eq_true (by omega)
      have hil : i < l.length := by rw [← HN.out]; exact hlt
      obtain ⟨y, hy⟩ : ∃ y, l[i]? = some y := ⟨_, List.getElem?_eq_getElem hil⟩
      obtain ⟨b, o, rfl, hat⟩ : ∃ b o, A = some ⟨b, o, none⟩ ∧ wr.cell? ⟨b, o + i * 1, none⟩ = some (.int .u8 y) := by
        rcases H.out with rfl | ⟨b, o, e, k⟩
        · simp at hy
        · exact ⟨b, o, e, k i y hy⟩
      rw [Nat.mul_one] at hat
      have lb := cell_lt' hat
      have hb := HLL.out
      have HY := Lib.hid hy
      clear hy
      by_cases hxy : x = y
      case pos =>
        subst hxy
        have q2 : ((x : Int) == (x : Int)) = true := by simp
        go_wp2_with fail
        go_ret
        exact ⟨⟨i, rfl, ⟨fun _ => List.mem_of_getElem? HY.out, fun _ => by omega⟩⟩, rfl⟩
      case neg =>
        have q2 : ((x : Int) == (y : Int)) = false := by simp; omega
        have HI2 := Lib.hid (show x ∉ l.take (i + 1) by
          rw [List.take_add_one, HY.out]
          intro hm
          rcases List.mem_append.1 hm with hm | hm
          · exact HI.out hm
          · simp at hm; exact hxy hm)
        go_wp2_with fail
        cases gk with
        | zero => omega
        | succ gk =>
          go_roundg gk
          case measure => omega
          case rel => exact ⟨i + 1, by omega, by omega, by simp, rfl, HI2⟩
set_option maxHeartbeats 1000000 in
theorem contains_any (v : Value) (l : List Nat) (x : Nat) (w : World) (h : OpsV w v l) (hl : l.length ≤ 1000000) : Calls Tryz.prog 148 #[v, .int .u8 x] w fun e w' => e = .returned (.bool (decide (x ∈ l))) ∧ w = w' := by
  have hi := index_any v l x w h hl
  go_enter Tryz.func148, Tryz.ntmps148
  go_wp2_with fail
  refine hi.mono ?_
  rintro e w1 ⟨⟨n, rfl, hn⟩, rfl⟩
  have HN := Lib.hid hn
  clear hn
  go_wp2_with fail
  all_goals go_ret
  all_goals exact ⟨ret_b (by rw [Bool.eq_iff_iff]; simp only [decide_eq_true_eq]; exact HN.out), rfl⟩
theorem ops_new (w : World) (t : TypeId) (l : List Nat) : OpsV (w.alloc (.cells (l.map fun (k : Nat) => Value.int .u8 k).toArray t)) (.slice (some ⟨w.heap.size, 0, none⟩) l.length l.length) l := by
  refine ⟨_, _, rfl, Nat.le_refl _, Or.inr ⟨_, 0, rfl, fun i x hx => ?_⟩⟩
  show World.cell? _ _ = _
  rw [(Blk.new w t (l.map fun (k : Nat) => Value.int .u8 k).toArray).cell]
  simp [hx]
set_option maxHeartbeats 1000000 in
theorem bins_any (o : Nat) (w : World) : Calls Tryz.prog 113 #[.int .u8 o] w fun e w' => e = .returned (.bool (decide (o ∈ binsW))) ∧ Below w.heap.size w w' := by
  go_enter Tryz.func113, Tryz.ntmps113
  go_wp2_with fail
  refine (contains_any _ binsW o _ (ops_new w 37 binsW) (by decide)).mono ?_
  rintro e w1 ⟨rfl, rfl⟩
  go_wp2_with fail
  go_ret
  exact ⟨rfl, (Below.refl _ _).alloc (Nat.le_refl _) _⟩
end Go.Proofs.YtgdibfnpkcdiiaaGreatDoor

/- The text of a program of three, as plain data; how long it is. By an AI agent. -/
namespace Go.Proofs.YtgdibfnpkcdiiaaGreatDoor

def numsT (l : List Int) : List UInt8 := l.flatMap fun n => 32 :: Lib.itoa n
def insT (x : In) : List UInt8 := numsT (numbersW x) ++ [10]
def fnT (f : FnP) : List UInt8 := f.name ++ (numsT [f.params, f.vars] ++ [10]) ++ f.code.flatMap insT
def textW (p : PrW) : List UInt8 := p.fns.flatMap fnT
def I64 (n : Int) : Prop := -9223372036854775808 ≤ n ∧ n ≤ 9223372036854775807
structure InOk (x : In) : Prop where
  op : x.op < 256
  v : I64 x.v
  a : I64 x.a
  b : I64 x.b
  n : I64 x.n
  bin : x.bin < 256
  args : ∀ k ∈ x.args, I64 k
  f : I64 x.f
  arr : I64 x.arr
  to : I64 x.to
structure FnOk (f : FnP) : Prop where
  params : I64 f.params
  vars : I64 f.vars
  code : ∀ x ∈ f.code, InOk x
structure PrOk (p : PrW) : Prop where
  arrays : ∀ k ∈ p.arrays, I64 k
  fns : ∀ f ∈ p.fns, FnOk f
  main : I64 p.main
theorem InOk.all {x : In} (h : InOk x) : ∀ k ∈ numbersW x, I64 k := by
  intro k hk
  simp only [numbersW, List.cons_append, List.nil_append, List.mem_cons] at hk
  have h1 := h.op; have h2 := h.bin
  rcases hk with rfl | rfl | rfl | rfl | rfl | rfl | rfl | rfl | rfl | hk
  · exact ⟨by omega, by omega⟩
  · exact h.v
  · exact h.a
  · exact h.b
  · exact h.n
  · exact ⟨by omega, by omega⟩
  · exact h.f
  · exact h.arr
  · exact h.to
  · exact h.args k hk
theorem dec_len : ∀ (k u : Nat), u < 10 ^ k → (Lib.decDigits u).length ≤ max k 1
  | 0, u, h => by
    have : u = 0 := by omega
    subst this
    rw [Lib.decDigits_one (by omega)]; simp
  | k + 1, u, h => by
    by_cases hu : u < 10
    · rw [Lib.decDigits_one hu]; simp
    · rw [Lib.decDigits, dif_neg hu]
      have ih := dec_len k (u / 10) (by rw [Nat.pow_succ] at h; omega)
      simp only [List.length_append, List.length_cons, List.length_nil]
      cases k with
      | zero => omega
      | succ k => omega
theorem itoa_len {n : Int} (h : I64 n) : (Lib.itoa n).length ≤ 20 := by
  obtain ⟨h1, h2⟩ := h
  have h3 : (10 : Nat) ^ 19 = 10000000000000000000 := by decide
  by_cases h0 : n < 0
  · obtain ⟨u, rfl⟩ : ∃ u : Nat, n = -(u : Int) := ⟨n.natAbs, by omega⟩
    rw [Lib.itoa_neg u (by omega)]
    have := dec_len 19 u (by rw [h3]; omega)
    simp only [List.length_cons]; omega
  · obtain ⟨u, rfl⟩ := Int.eq_ofNat_of_zero_le (show 0 ≤ n by omega)
    rw [Lib.itoa_nonneg]
    have := dec_len 19 u (by rw [h3]; omega)
    omega
theorem flat_len {α : Type} (f : α → List UInt8) (c : Nat) : ∀ (l : List α), (∀ x ∈ l, (f x).length ≤ c) → (l.flatMap f).length ≤ l.length * c
  | [], _ => by simp
  | x :: l, h => by
    have ih := flat_len f c l (fun y hy => h y (List.mem_cons_of_mem _ hy))
    have h0 := h x (List.mem_cons_self ..)
    simp only [List.flatMap_cons, List.length_append, List.length_cons, Nat.add_mul]; omega
theorem nums_len {l : List Int} (h : ∀ k ∈ l, I64 k) : (numsT l).length ≤ l.length * 21 :=
  flat_len _ 21 l fun k hk => by have := itoa_len (h k hk); simp only [List.length_cons]; omega
theorem ins_len {x : In} (h : InOk x) (ha : x.args.length ≤ 20) : (insT x).length ≤ 610 := by
  have := nums_len h.all
  have e : (numbersW x).length = 9 + x.args.length := by simp [numbersW]; omega
  simp only [insT, List.length_append, List.length_cons, List.length_nil]
  omega
theorem fewIns_mem {l : List In} (h : fewIns l = true) : ∀ x ∈ l, x.args.length ≤ 20 := fun x hx => by
  have := List.all_eq_true.1 h x hx
  simpa using this
theorem fn_len {f : FnP} (h : FnOk f) (hn : f.name.length ≤ 50) (hi : fewIns f.code = true) : (fnT f).length ≤ 93 + f.code.length * 610 := by
  have h1 := flat_len insT 610 f.code fun x hx => ins_len (h.code x hx) (fewIns_mem hi x hx)
  have h2 := nums_len (l := [f.params, f.vars]) (by
    intro k hk
    simp only [List.mem_cons, List.not_mem_nil, or_false] at hk
    rcases hk with rfl | rfl
    · exact h.params
    · exact h.vars)
  simp only [fnT, List.length_append, List.length_cons, List.length_nil] at h2 ⊢
  omega
theorem fns_len : ∀ (l : List FnP) (n : Nat), (∀ f ∈ l, FnOk f) → fewGo n l = true → n ≤ 300 → (l.flatMap fnT).length ≤ l.length * 93 + (300 - n) * 610
  | [], _, _, _, _ => by simp
  | f :: l, n, h, hf, hn => by
    simp only [fewGo, Bool.and_eq_true, decide_eq_true_eq] at hf
    obtain ⟨⟨⟨h1, h2⟩, h3⟩, h4⟩ := hf
    have ih := fns_len l _ (fun y hy => h y (List.mem_cons_of_mem _ hy)) h4 h1
    have h0 := fn_len (h f (List.mem_cons_self ..)) h2 h3
    simp only [List.flatMap_cons, List.length_append, List.length_cons, Nat.add_mul]
    omega
theorem text_len {p : PrW} (h : PrOk p) (hf : fewW p = true) : (textW p).length ≤ 189510 := by
  simp only [fewW, Bool.and_eq_true, decide_eq_true_eq] at hf
  obtain ⟨⟨_, h2⟩, h3⟩ := hf
  have := fns_len p.fns 0 h.fns h3 (by omega)
  unfold textW
  omega
end Go.Proofs.YtgdibfnpkcdiiaaGreatDoor

/- A law for regions of operations, whatever their order: each leaves in its temporary the value that is told ahead, in whatever world that only has new memory. No condition. -/
namespace Go.Proofs.YtgdibfnpkcdiiaaGreatDoor
open Go Go.RowKit

def dstAt (ops : Array Oper) (i : Nat) : Option Nat := (ops[i]?).bind (·.dst)
def needs (o : Oper) (j : Nat) : Bool := o.after.any fun e => Region.binds .any e && e.on == j
def opOk (ops : Array Oper) (n sz i : Nat) : Bool := match ops[i]? with
  | none => false
  | some o => (match o.dst with | some d => decide (d < sz) && (List.range n).all (fun j => j == i || dstAt ops j != some d) | none => false)
     && o.after.all (fun e => !Region.binds .any e || decide (e.on < i)) && (o.looksAt ops).all (fun t => (List.range n).all fun j => dstAt ops j != some t || needs o j)
def lastOk (ops : Array Oper) (n : Nat) : Bool := match ops[n]? with
  | some o => (List.range n).all (needs o) && o.after.all (fun e => !Region.binds .any e || decide (e.on < n))
  | none => true
def regOk (ops : Array Oper) (n sz : Nat) : Bool :=
  Region.noSelect ops && decide (n ≤ ops.size) && decide (ops.size ≤ n + 1) && (List.range n).all (opOk ops n sz) && lastOk ops n
/-- The values laid into their slots. -/
def layV (ops : Array Oper) : Nat → List Value → Act → Act
  | _, [], a => a
  | i, v :: r, a => layV ops (i + 1) r (a.put (dstAt ops i) v)

section
variable {P : Program} {ops : Array Oper} {Q : Exit → Act → World → Prop}

/-- A guard, by its slot. -/
abbrev Gs := Option (Nat × Bool)
def isGo (F : Act) (gs : Gs) : Bool := match gs with
  | none => true
  | some (s, want) => match F.tmps[s]? with | some (.bool b) => b == want | _ => false
def gsOk (ops : Array Oper) (o : Oper) (gs : Gs) : Bool := match o.guard, gs with
  | none, none => true
  | some (g, w), some (s, w') => dstAt ops g == some s && w == w'
  | _, _ => false
theorem wanted_go {ops : Array Oper} {F : Act} {o : Oper} {gs : Gs} (h : gsOk ops o gs = true) : Region.wanted o (yielded ops F.tmps) = isGo F gs := by
  unfold gsOk at h
  unfold Region.wanted isGo
  cases hg : o.guard with
  | none =>
    rw [hg] at h
    cases gs with
    | none => rfl
    | some x => cases h
  | some gw =>
    obtain ⟨g, w⟩ := gw
    rw [hg] at h
    cases gs with
    | none => cases h
    | some x =>
      obtain ⟨s, w'⟩ := x
      simp only [Bool.and_eq_true, beq_iff_eq] at h
      obtain ⟨h1, rfl⟩ := h
      unfold dstAt at h1
      simp only [yielded, h1, Option.bind_some]
      cases F.tmps[s]? with
      | none => rfl
      | some u => cases u <;> rfl
def OpRes (P : Program) (F : Act) (W : World) (o : Oper) (gs : Gs) (v : Value) : Prop :=
  if isGo F gs = true then
    match (execOp F.eval o).run P W with
    | .ok (.value u) W' => u = v ∧ Below W.heap.size W W'
    | .ok .skip W' => undef = v ∧ Below W.heap.size W W'
    | .ok (.enter f args) W' => Calls P f args W' (fun e W'' => e = .returned v ∧ Below W.heap.size W W'')
    | _ => False
  else undef = v

theorem exec_agree (o : Oper) (hs : ∀ cs b, o.op ≠ .select cs b) (a b : Act) (h : ∀ t ∈ o.looksAt ops, a.tmps[t]? = b.tmps[t]?) :
    execOp a.eval o = execOp b.eval o ∧ Region.wanted o (yielded ops a.tmps) = Region.wanted o (yielded ops b.tmps) := by
  refine ⟨execOp_congr o hs fun x hx => ?_, ?_⟩
  · cases x with
    | tmp t =>
      have := h t (List.mem_append_left _ (List.mem_filterMap.2 ⟨.tmp t, by simpa using hx, rfl⟩))
      show a.tmps.getD t undef = b.tmps.getD t undef
      rw [Array.getD_eq_getD_getElem?, Array.getD_eq_getD_getElem?, this]
    | const v => rfl
    | global g => rfl
    | func f => rfl
  · unfold Region.wanted
    cases hg : o.guard with
    | none => rfl
    | some gw =>
      obtain ⟨g, want⟩ := gw
      simp only
      congr 1
      unfold yielded
      cases hd : (ops[g]?).bind (·.dst) with
      | none => rfl
      | some d =>
        have := h d (List.mem_append_right _ (by rw [hg]; simp [hd]))
        simp [this]

theorem OpRes.wpOp {F a : Act} {W : World} {i : Nat} {o : Oper} {gs : Gs} {v : Value} (hi : ops[i]? = some o) (hs : ∀ cs b, o.op ≠ .select cs b) (hgs : gsOk ops o gs = true) (h : OpRes P F W o gs v) (hag : ∀ t ∈ o.looksAt ops, a.tmps[t]? = F.tmps[t]?)
    {K : Act → World → Prop} (hK : ∀ W', Below W.heap.size W W' → K (a.put o.dst v) W') : wpOp P ops Q i K a W := by
  obtain ⟨e1, e2⟩ := exec_agree (ops := ops) o hs a F hag
  unfold Go.wpOp
  simp only [hi]
  rw [e2, wanted_go hgs]
  unfold OpRes at h
  split
  · rename_i hw
    rw [if_pos hw] at h
    refine Or.inl ?_
    unfold Oper.wp
    rw [e1]
    revert h
    cases (execOp F.eval o).run P W with
    | ok x W' =>
      cases x with
      | value u => rintro ⟨rfl, hb⟩; exact hK _ hb
      | skip => rintro ⟨rfl, hb⟩; exact hK _ hb
      | enter f args =>
        intro h
        refine Calls.mono h ?_
        rintro e W'' ⟨rfl, hb⟩
        exact hK _ hb
      | _ => intro h; exact h.elim
    | halt => intro h; exact h.elim
  · rename_i hw
    rw [if_neg hw] at h
    subst h
    exact hK _ (Below.refl _ _)

theorem lay_size : ∀ (vals : List Value) (i : Nat) (a : Act), (layV ops i vals a).tmps.size = a.tmps.size ∧ (layV ops i vals a).defers = a.defers
  | [], _, _ => ⟨rfl, rfl⟩
  | v :: r, i, a => by
    have ih := lay_size r (i + 1) (a.put (dstAt ops i) v)
    rw [layV, ih.1, ih.2]
    cases dstAt ops i <;> simp [Act.put]
theorem lay_not : ∀ (vals : List Value) (i : Nat) (a : Act) (t : Nat), (∀ j, j < vals.length → dstAt ops (i + j) ≠ some t) → (layV ops i vals a).tmps[t]? = a.tmps[t]?
  | [], _, _, _, _ => rfl
  | v :: r, i, a, t, h => by
    rw [layV, lay_not r (i + 1) _ t (fun j hj => by have := h (j + 1) (by simp; omega); rwa [show i + 1 + j = i + (j + 1) by omega])]
    have h0 := h 0 (by simp)
    rw [Nat.add_zero] at h0
    cases hd : dstAt ops i with
    | none => rfl
    | some d =>
      simp only [Act.put]
      rw [Array.getElem?_setIfInBounds_ne (fun e => h0 (by rw [hd, e]))]
theorem lay_at : ∀ (vals : List Value) (i : Nat) (a : Act) (j t : Nat) (v : Value), vals[j]? = some v → dstAt ops (i + j) = some t → t < a.tmps.size → (∀ k, k < vals.length → k ≠ j → dstAt ops (i + k) ≠ some t) → (layV ops i vals a).tmps[t]? = some v
  | [], _, _, _, _, _, h, _, _, _ => by simp at h
  | u :: r, i, a, 0, t, v, h, hd, ht, hn => by
    simp at h
    subst h
    rw [layV, lay_not r (i + 1) _ t (fun k hk => by have := hn (k + 1) (by simp; omega) (by omega); rwa [show i + 1 + k = i + (k + 1) by omega])]
    rw [Nat.add_zero] at hd
    rw [hd]
    simp only [Act.put]
    rw [Array.getElem?_setIfInBounds_self_of_lt ht]
  | u :: r, i, a, j + 1, t, v, h, hd, ht, hn => by
    rw [layV]
    refine lay_at r (i + 1) _ j t v (by simpa using h) (by rwa [show i + 1 + j = i + (j + 1) by omega]) ?_ (fun k hk hkj => by have := hn (k + 1) (by simp; omega) (by omega); rwa [show i + 1 + k = i + (k + 1) by omega])
    cases dstAt ops i <;> simp [Act.put, ht]

/-- What the static look gives for one operation. -/
theorem opOk_spec {n sz i : Nat} (h : opOk ops n sz i = true) : ∃ o d, ops[i]? = some o ∧ o.dst = some d ∧ dstAt ops i = some d ∧ d < sz ∧ (∀ j, j < n → j ≠ i → dstAt ops j ≠ some d) ∧
    (∀ e ∈ o.after, Region.binds .any e = true → e.on < i) ∧ ∀ t ∈ o.looksAt ops, ∀ j, j < n → dstAt ops j = some t → ∃ e ∈ o.after, Region.binds .any e = true ∧ e.on = j := by
  unfold opOk at h
  cases ho : ops[i]? with
  | none => rw [ho] at h; cases h
  | some o =>
    rw [ho] at h
    simp only [Bool.and_eq_true] at h
    obtain ⟨⟨h1, h2⟩, h3⟩ := h
    cases hd : o.dst with
    | none => rw [hd] at h1; cases h1
    | some d =>
      rw [hd] at h1
      simp only [Bool.and_eq_true, decide_eq_true_eq, List.all_eq_true, List.mem_range, Bool.or_eq_true, beq_iff_eq, bne_iff_ne] at h1
      rw [Array.all_eq_true_iff_forall_mem] at h2
      simp only [List.all_eq_true, List.mem_range, Bool.or_eq_true, bne_iff_ne] at h3
      refine ⟨o, d, rfl, hd, by unfold dstAt; rw [ho]; exact hd, h1.1, fun j hj hji => (h1.2 j hj).resolve_left hji, fun e he hb => ?_, fun t ht j hj hdj => ?_⟩
      · have := h2 e he
        rw [hb] at this
        simpa using this
      · have := (h3 t ht j hj).resolve_left (fun hh => hh hdj)
        unfold needs at this
        rw [← Array.any_toList, List.any_eq_true] at this
        obtain ⟨e, he, hh⟩ := this
        have he : e ∈ o.after := Array.mem_toList_iff.1 he
        simp only [Bool.and_eq_true, beq_iff_eq] at hh
        exact ⟨e, he, hh.1, hh.2⟩

/-- Some of the operations have come up. -/
structure Laid (ops : Array Oper) (n : Nat) (F a0 : Act) (L : Nat → Bool) (a : Act) : Prop where
  defers : a.defers = F.defers
  size : a.tmps.size = F.tmps.size
  yes : ∀ j t, j < n → L j = true → dstAt ops j = some t → a.tmps[t]? = F.tmps[t]?
  no : ∀ t, (∀ j, j < n → L j = true → dstAt ops j ≠ some t) → a.tmps[t]? = a0.tmps[t]?

theorem Laid.all {n : Nat} {F a0 a : Act} {L : Nat → Bool} (h : Laid ops n F a0 L a) (hF : ∀ t, (∀ j, j < n → dstAt ops j ≠ some t) → F.tmps[t]? = a0.tmps[t]?) (hL : ∀ j, j < n → L j = true) : a = F := by
  obtain ⟨h1, h2, h3, h4⟩ := h
  cases a with | mk ta da =>
  cases F with | mk tf df =>
  simp only at h1 h2
  subst h1
  congr 1
  refine Array.ext_getElem? fun t => ?_
  by_cases hd : ∃ j, j < n ∧ dstAt ops j = some t
  · obtain ⟨j, hj, hd⟩ := hd
    exact h3 j t hj (hL j hj) hd
  · have hn : ∀ j, j < n → dstAt ops j ≠ some t := fun j hj he => hd ⟨j, hj, he⟩
    have := hF t hn
    rw [show ta[t]? = a0.tmps[t]? from h4 t (fun j hj _ => hn j hj), ← this]

theorem Laid.put {n i sz : Nat} {F a0 a : Act} {L L' : Nat → Bool} (h : Laid ops n F a0 L a) (hok : opOk ops n sz i = true) (hsz : a.tmps.size = sz) (hi : i < n) (hL : ∀ j, L' j = (j == i || L j)) {o : Oper} (ho : ops[i]? = some o) {v : Value} (hv : ∀ t, dstAt ops i = some t → F.tmps[t]? = some v) :
    Laid ops n F a0 L' (a.put o.dst v) := by
  obtain ⟨o', d, ho', hd, hda, hlt, hdis, _, _⟩ := opOk_spec hok
  rw [ho] at ho'
  injection ho' with e
  subst e
  rw [hd]
  refine ⟨h.defers, by simp [Act.put, h.size], fun j t hj hl ht => ?_, fun t ht => ?_⟩
  · by_cases hji : j = i
    · subst hji
      rw [hda] at ht
      injection ht with e
      subst e
      simp only [Act.put]
      have hda2 : d < a.tmps.size := by rw [hsz]; exact hlt
      rw [Array.getElem?_setIfInBounds_self_of_lt hda2, hv _ hda]
    · have hdt : d ≠ t := fun e => hdis j hj hji (by rw [e]; exact ht)
      simp only [Act.put]
      rw [Array.getElem?_setIfInBounds_ne hdt]
      exact h.yes j t hj (by rw [hL] at hl; simpa [hji] using hl) ht
  · have hdt : d ≠ t := fun e => ht i hi (by rw [hL]; simp) (by rw [hda, e])
    simp only [Act.put]
    rw [Array.getElem?_setIfInBounds_ne hdt]
    exact h.no t fun j hj hl => ht j hj (by rw [hL, hl]; simp)

theorem Laid.agree {n i sz : Nat} {F a0 a : Act} {L : Nat → Bool} (h : Laid ops n F a0 L a) (hok : opOk ops n sz i = true) (hF : ∀ t, (∀ j, j < n → dstAt ops j ≠ some t) → F.tmps[t]? = a0.tmps[t]?) {o : Oper} (ho : ops[i]? = some o)
    (hL : ∀ e ∈ o.after, Region.binds .any e = true → L e.on = true) : ∀ t ∈ o.looksAt ops, a.tmps[t]? = F.tmps[t]? := by
  obtain ⟨o', d, ho', hd, hda, hlt, hdis, hbe, hlook⟩ := opOk_spec hok
  rw [ho] at ho'
  injection ho' with e
  subst e
  intro t ht
  by_cases hw : ∃ j, j < n ∧ dstAt ops j = some t
  · obtain ⟨j, hj, hdj⟩ := hw
    obtain ⟨e, he, hb, rfl⟩ := hlook t ht j hj hdj
    exact h.yes _ t hj (hL e he hb) hdj
  · have hn : ∀ j, j < n → dstAt ops j ≠ some t := fun j hj he => hw ⟨j, hj, he⟩
    rw [hF t hn]
    exact h.no t fun j hj _ => hn j hj

/-- Each operation, in order, leaves its value. -/
def ResL (P : Program) (F : Act) (W : World) : List Oper → List (Gs × Value) → Prop
  | o :: os, v :: vs => OpRes P F W o v.1 v.2 ∧ ResL P F W os vs
  | _, _ => True
theorem ResL.nil {F : Act} {W : World} {os : List Oper} : ResL P F W os [] := by cases os <;> trivial
theorem ResL.cons {F : Act} {W : World} {os : List Oper} {vs : List (Gs × Value)} {o : Oper} {gs : Gs} {v : Value} (h : OpRes P F W o gs v) (k : ResL P F W os vs) : ResL P F W (o :: os) ((gs, v) :: vs) := ⟨h, k⟩
theorem ResL.at {F : Act} {W : World} : ∀ {os : List Oper} {vs : List (Gs × Value)} {i : Nat} {o : Oper} {v : Gs × Value}, ResL P F W os vs → os[i]? = some o → vs[i]? = some v → OpRes P F W o v.1 v.2
  | [], _, _, _, _, _, h, _ => by simp at h
  | _ :: _, [], _, _, _, _, _, h => by simp at h
  | o :: os, v :: vs, 0, _, _, hr, h, k => by simp at h k; subst h k; exact hr.1
  | o :: os, v :: vs, i + 1, _, _, hr, h, k => ResL.at (i := i) hr.2 (by simpa using h) (by simpa using k)
/-- The guards' slots are told rightly. -/
def gsAll (ops : Array Oper) : List Oper → List (Gs × Value) → Bool
  | o :: os, v :: vs => gsOk ops o v.1 && gsAll ops os vs
  | _, _ => true
theorem gsAll_at : ∀ {os : List Oper} {vs : List (Gs × Value)} {i : Nat} {o : Oper} {v : Gs × Value}, gsAll ops os vs = true → os[i]? = some o → vs[i]? = some v → gsOk ops o v.1 = true
  | [], _, _, _, _, _, h, _ => by simp at h
  | _ :: _, [], _, _, _, _, _, h => by simp at h
  | o :: os, v :: vs, 0, _, _, hr, h, k => by
    simp at h k; subst h k
    rw [gsAll, Bool.and_eq_true] at hr
    exact hr.1
  | o :: os, v :: vs, i + 1, _, _, hr, h, k => by
    rw [gsAll, Bool.and_eq_true] at hr
    exact gsAll_at (i := i) hr.2 (by simpa using h) (by simpa using k)

theorem wpAny_vals (n : Nat) (F a0 : Act) (w0 : World) (vals : List Value) (hn : vals.length = n) (hok : regOk ops n a0.tmps.size = true)
    (hF : F = layV ops 0 vals a0) (hres : ∀ W, Below w0.heap.size w0 W → ∀ (i : Nat) (o : Oper) (v : Value), ops[i]? = some o → vals[i]? = some v → ∃ gs, gsOk ops o gs = true ∧ OpRes P F W o gs v)
    (hfin : ∀ W, Below w0.heap.size w0 W → wpList P ops Q (ops.toList.drop n) F W) :
    ∀ (fuel : Nat) (listed : Array Bool) (a : Act) (w : World), listed.size = ops.size → (∀ j, n ≤ j → j < ops.size → listed.getD j true = false) → ((List.range ops.size).filter fun j => !listed.getD j true).length ≤ fuel → Below w0.heap.size w0 w →
      Laid ops n F a0 (fun j => listed.getD j false) a → wpAny P .any ops Q fuel listed a w := by
  have hk := hok
  unfold regOk at hk
  simp only [Bool.and_eq_true, decide_eq_true_eq, List.all_eq_true, List.mem_range] at hk
  obtain ⟨⟨⟨⟨hsel, hle⟩, hge⟩, hops⟩, hlast⟩ := hk
  have hFn : ∀ t, (∀ j, j < n → dstAt ops j ≠ some t) → F.tmps[t]? = a0.tmps[t]? := fun t ht => by
    rw [hF]; exact lay_not vals 0 a0 t (fun j hj => by rw [Nat.zero_add]; exact ht j (by omega))
  have hFs : F.tmps.size = a0.tmps.size := by rw [hF]; exact (lay_size vals 0 a0).1
  have same : ∀ (listed : Array Bool) (j : Nat), j < listed.size → listed.getD j false = listed.getD j true := by
    intro listed j hj
    simp [hj]
  have hready : ∀ (listed : Array Bool), listed.size = ops.size → ∀ m, m ≤ n → (∀ j, j < m → listed.getD j false = true ∨ j ∉ Region.ready .any ops listed) → ∀ j, j < m → listed.getD j false = true := by
    intro listed hsz m hm h j
    induction j using Nat.strongRecOn with
    | ind j ih =>
      intro hj
      rcases h j hj with h | h
      · exact h
      · cases hl : listed.getD j false with
        | true => rfl
        | false =>
          exfalso
          obtain ⟨o, d, ho, _, _, _, _, hbe, _⟩ := opOk_spec (hops j (by omega))
          refine h (mem_ready.2 ⟨by rw [← same listed j (by omega)]; exact hl, o, ho, fun e he hb => ih e.on (hbe e he hb) (by have := hbe e he hb; omega)⟩)
  have done : ∀ (listed : Array Bool) (a : Act) (w : World), listed.size = ops.size → (∀ j, n ≤ j → j < ops.size → listed.getD j true = false) → Below w0.heap.size w0 w →
      Laid ops n F a0 (fun j => listed.getD j false) a → (∀ j, j < n → listed.getD j false = true) → ∀ fuel, ops.size - n ≤ fuel → wpAny P .any ops Q fuel listed a w := by
    intro listed a w hsz hlo hb hl hall fuel hfu
    have haF : a = F := hl.all hFn hall
    subst haF
    have hf := hfin w hb
    by_cases hnn : n = ops.size
    · have hr : Region.ready .any ops listed = [] := by
        cases hr : Region.ready .any ops listed with
        | nil => rfl
        | cons i r =>
          have hi : i ∈ Region.ready .any ops listed := by rw [hr]; simp
          obtain ⟨h0, o, ho, _⟩ := mem_ready.1 hi
          have hlt := (Array.getElem?_eq_some_iff.1 ho).1
          have := hall i (by omega)
          rw [same listed i (by omega), h0] at this
          cases this
      have hd : ops.toList.drop n = [] := List.drop_of_length_le (by simp; omega)
      rw [hd] at hf
      cases fuel with
      | zero => exact ⟨hr, hf⟩
      | succ fuel => exact ⟨fun _ => hf, fun i hi => by rw [hr] at hi; simp at hi⟩
    · have hsz1 : ops.size = n + 1 := by omega
      obtain ⟨fuel, rfl⟩ : ∃ k, fuel = k + 1 := ⟨fuel - 1, by omega⟩
      have hnl : n < ops.size := by omega
      have hon : ops[n]? = some ops[n] := Array.getElem?_eq_getElem hnl
      have hd : ops.toList.drop n = [ops[n]] := by
        rw [List.drop_eq_getElem_cons (by simpa using hnl)]
        rw [List.drop_of_length_le (by simp; omega)]
        simp
      rw [hd] at hf
      unfold lastOk at hlast
      rw [hon] at hlast
      simp only [Bool.and_eq_true, List.all_eq_true, List.mem_range, Array.all_eq_true_iff_forall_mem] at hlast
      have hne : n ∈ Region.ready .any ops listed := mem_ready.2 ⟨hlo n (Nat.le_refl _) hnl, _, hon, fun e he hb => hall _ (by
        have := hlast.2 e he
        rw [hb] at this
        simpa using this)⟩
      refine ⟨fun hr => by rw [hr] at hne; simp at hne, fun i hi => ?_⟩
      have hin : i = n := by
        obtain ⟨h0, o, ho, _⟩ := mem_ready.1 hi
        have hlt := (Array.getElem?_eq_some_iff.1 ho).1
        rcases Nat.lt_or_ge i n with h | h
        · have := hall i h
          rw [same listed i (by omega), h0] at this
          cases this
        · omega
      subst hin
      have hone : wpOp P ops Q i (wpList P ops Q []) a w := by
        unfold Go.wpOp
        rw [hon]
        exact hf
      refine wpOp_mono (fun a' w' hq => ?_) hone
      have hq : Q .normal a' w' := hq
      have hr2 : Region.ready .any ops (listed.setIfInBounds i true) = [] := by
        cases hr : Region.ready .any ops (listed.setIfInBounds i true) with
        | nil => rfl
        | cons k r =>
          have hk : k ∈ Region.ready .any ops (listed.setIfInBounds i true) := by rw [hr]; simp
          obtain ⟨h0, o, ho, _⟩ := mem_ready.1 hk
          have hlt := (Array.getElem?_eq_some_iff.1 ho).1
          by_cases hki : i = k
          · subst hki
            simp [hsz, hlt] at h0
          · rw [getD_set_ne true hki] at h0
            have := hall k (by omega)
            rw [same listed k (by omega), h0] at this
            cases this
      cases fuel with
      | zero => exact ⟨hr2, hq⟩
      | succ fuel => exact ⟨fun _ => hq, fun k hk => by rw [hr2] at hk; simp at hk⟩
  intro fuel
  induction fuel with
  | zero =>
    intro listed a w hsz hlo hfu hb hl
    have hnone : ∀ j, j < ops.size → listed.getD j true = true := fun j hj => by
      cases hh : listed.getD j true with
      | true => rfl
      | false =>
        have : j ∈ (List.range ops.size).filter fun j => !listed.getD j true := List.mem_filter.2 ⟨List.mem_range.2 hj, by simp [hh]⟩
        have := List.length_pos_of_mem this
        omega
    refine done listed a w hsz hlo hb hl (fun j hj => by rw [same listed j (by omega)]; exact hnone j (by omega)) 0 ?_
    rcases Nat.lt_or_ge n ops.size with h | h
    · have h1 := hlo n (Nat.le_refl _) h
      have h2 := hnone n h
      rw [h1] at h2
      cases h2
    · omega
  | succ fuel ih =>
    intro listed a w hsz hlo hfu hb hl
    by_cases hall : ∀ j, j < n → listed.getD j false = true
    · exact done listed a w hsz hlo hb hl hall (fuel + 1) (by omega)
    · refine ⟨fun hr => ?_, fun i hi => ?_⟩
      · exfalso
        exact hall (hready listed hsz n (Nat.le_refl _) (fun j hj => Or.inr (by rw [hr]; simp)))
      · obtain ⟨h0, o, ho, haft⟩ := mem_ready.1 hi
        have hlt := (Array.getElem?_eq_some_iff.1 ho).1
        have hin : i < n := by
          rcases Nat.lt_or_ge i n with h | h
          · exact h
          · exfalso
            obtain rfl : i = n := by omega
            refine hall fun j hj => ?_
            unfold lastOk at hlast
            rw [ho] at hlast
            simp only [Bool.and_eq_true, List.all_eq_true, List.mem_range] at hlast
            have := hlast.1 j hj
            unfold needs at this
            rw [← Array.any_toList, List.any_eq_true] at this
            obtain ⟨e, he, hh⟩ := this
            have he : e ∈ o.after := Array.mem_toList_iff.1 he
            simp only [Bool.and_eq_true, beq_iff_eq] at hh
            obtain ⟨hh1, rfl⟩ := hh
            exact haft e he hh1
        obtain ⟨v, hv⟩ : ∃ v, vals[i]? = some v := ⟨_, List.getElem?_eq_getElem (by omega)⟩
        have hopi := hops i hin
        have hag := hl.agree hopi hFn ho (fun e he hbn => haft e he hbn)
        obtain ⟨gs, hgs1, hgs2⟩ := hres w hb i o v ho hv
        refine OpRes.wpOp ho (fun cs b => Region.noSelect_spec hsel i o cs b ho) hgs1 hgs2 hag (fun W' hb' => ?_)
        obtain ⟨o', d, ho', hd, hda, hdl, hdis, _, _⟩ := opOk_spec hopi
        have hcount : ((List.range ops.size).filter fun j => !(listed.setIfInBounds i true).getD j true).length ≤ fuel := by
          have hsub : ((List.range ops.size).filter fun j => !(listed.setIfInBounds i true).getD j true).length < ((List.range ops.size).filter fun j => !listed.getD j true).length := by
            have hmem : i ∈ (List.range ops.size).filter fun j => !listed.getD j true := List.mem_filter.2 ⟨List.mem_range.2 hlt, by simp [h0]⟩
            have e : ((List.range ops.size).filter fun j => !(listed.setIfInBounds i true).getD j true) = ((List.range ops.size).filter fun j => !listed.getD j true).filter (fun j => j != i) := by
              rw [List.filter_filter]
              refine List.filter_congr fun j hj => ?_
              by_cases hji : i = j
              · subst hji
                simp [hsz, hlt]
              · rw [getD_set_ne true hji]
                simp [Ne.symm hji]
            rw [e]
            refine List.length_filter_lt_length_iff_exists.2 ⟨i, hmem, by simp⟩
          omega
        refine ih _ _ _ (by simp [hsz]) (fun j hj hjl => ?_) hcount (hb.trans (hb'.mono hb.size)) ?_
        · rw [getD_set_ne true (by omega)]; exact hlo j hj hjl
        · refine hl.put hopi (by rw [hl.size, hFs]) hin (fun j => ?_) ho (fun t ht => ?_)
          · by_cases hji : i = j
            · subst hji
              simp [hsz, hlt]
            · rw [getD_set_ne false hji]
              simp [Ne.symm hji]
          · rw [hF]
            rw [hda] at ht
            injection ht with e
            subst e
            exact lay_at vals 0 a0 i d v hv (by rw [Nat.zero_add]; exact hda) hdl (fun k hk hki => by rw [Nat.zero_add]; exact hdis k (by omega) hki)

theorem wpList_vals (n : Nat) (F a0 : Act) (w0 : World) (vals : List Value) (hn : vals.length = n) (hok : regOk ops n a0.tmps.size = true)
    (hF : F = layV ops 0 vals a0) (hres : ∀ W, Below w0.heap.size w0 W → ∀ (i : Nat) (o : Oper) (v : Value), ops[i]? = some o → vals[i]? = some v → ∃ gs, gsOk ops o gs = true ∧ OpRes P F W o gs v)
    (hfin : ∀ W, Below w0.heap.size w0 W → wpList P ops Q (ops.toList.drop n) F W) :
    ∀ (r i : Nat) (a : Act) (w : World), r = n - i → i ≤ n → Below w0.heap.size w0 w → Laid ops n F a0 (fun j => decide (j < i)) a → wpList P ops Q (ops.toList.drop i) a w := by
  have hk := hok
  unfold regOk at hk
  simp only [Bool.and_eq_true, decide_eq_true_eq, List.all_eq_true, List.mem_range] at hk
  obtain ⟨⟨⟨⟨hsel, hle⟩, hge⟩, hops⟩, hlast⟩ := hk
  have hFn : ∀ t, (∀ j, j < n → dstAt ops j ≠ some t) → F.tmps[t]? = a0.tmps[t]? := fun t ht => by
    rw [hF]; exact lay_not vals 0 a0 t (fun j hj => by rw [Nat.zero_add]; exact ht j (by omega))
  have hFs : F.tmps.size = a0.tmps.size := by rw [hF]; exact (lay_size vals 0 a0).1
  intro r
  induction r with
  | zero =>
    intro i a w hr hi hb hl
    obtain rfl : i = n := by omega
    have haF : a = F := hl.all hFn (fun j hj => by simpa using hj)
    rw [haF]
    exact hfin w hb
  | succ r ih =>
    intro i a w hr hi hb hl
    have hin : i < n := by omega
    have hopi := hops i hin
    obtain ⟨o, d, ho, hd, hda, hdl, hdis, hbe, hlook⟩ := opOk_spec hopi
    have hlt := (Array.getElem?_eq_some_iff.1 ho).1
    have hoe : ops.toList[i]'(by simpa using hlt) = o := by
      have := (Array.getElem?_eq_some_iff.1 ho).2
      simpa using this
    obtain ⟨v, hv⟩ : ∃ v, vals[i]? = some v := ⟨_, List.getElem?_eq_getElem (by omega)⟩
    rw [List.drop_eq_getElem_cons (by simpa using hlt), hoe]
    have hag := hl.agree hopi hFn ho (fun e he hbn => by have := hbe e he hbn; simpa using this)
    have hw : wpOp P ops Q i (wpList P ops Q (ops.toList.drop (i + 1))) a w := by
      obtain ⟨gs, hgs1, hgs2⟩ := hres w hb i o v ho hv
      refine OpRes.wpOp ho (fun cs b => Region.noSelect_spec hsel i o cs b ho) hgs1 hgs2 hag (fun W' hb' => ?_)
      refine ih (i + 1) _ _ (by omega) (by omega) (hb.trans (hb'.mono hb.size)) ?_
      refine hl.put hopi (by rw [hl.size, hFs]) hin (fun j => ?_) ho (fun t ht => ?_)
      · by_cases hji : j = i
        · subst hji; simp
        · simp only [show (j == i) = false by simpa using hji, Bool.false_or]
          by_cases h : j < i
          · simp [h, show j < i + 1 by omega]
          · simp [h, show ¬ j < i + 1 by omega]
      · rw [hF]
        rw [hda] at ht
        injection ht with e
        subst e
        exact lay_at vals 0 a0 i d v hv (by rw [Nat.zero_add]; exact hda) hdl (fun k hk hki => by rw [Nat.zero_add]; exact hdis k (by omega) hki)
    unfold Go.wpOp at hw
    rw [ho] at hw
    exact hw
end

/-- THE LAW. The values of all operations, or of all but the last one; behind them the frame is a letter, and the world one with new memory only. -/
theorem wp_region_vals {P : Program} {Q : Exit → Act → World → Prop} {id : Nat} {draw : Bool} {l : List Oper} (vs : List (Gs × Value)) {a0 : Act} {w0 : World} (hm : P.follows .mixedOrders = true) (hok : (regOk l.toArray vs.length a0.tmps.size && gsAll l.toArray l vs) = true)
    (h : ∀ F : Act, F = layV l.toArray 0 (vs.map (·.2)) a0 → (∀ W, Below w0.heap.size w0 W → ResL P F W l vs) ∧ ∀ W, Below w0.heap.size w0 W → wpList P l.toArray Q (l.drop vs.length) F W) :
    (Code.region id l.toArray draw).wp P Q a0 w0 := by
  rw [Bool.and_eq_true] at hok
  obtain ⟨hok, hgs⟩ := hok
  obtain ⟨h1, h2⟩ := h _ rfl
  obtain ⟨vals, hvals⟩ : ∃ vals, vals = vs.map (·.2) := ⟨_, rfl⟩
  have hlen : vals.length = vs.length := by rw [hvals, List.length_map]
  rw [← hvals] at h1 h2
  have hsz := (lay_size (ops := l.toArray) vals 0 a0)
  have hres : ∀ W, Below w0.heap.size w0 W → ∀ (i : Nat) (o : Oper) (v : Value), (l.toArray)[i]? = some o → vals[i]? = some v → ∃ gs, gsOk l.toArray o gs = true ∧ OpRes P (layV l.toArray 0 vals a0) W o gs v :=
    fun W hb i o v ho hv => by
      rw [hvals, List.getElem?_map, Option.map_eq_some_iff] at hv
      obtain ⟨u, hu, rfl⟩ := hv
      have ho2 : l[i]? = some o := by simpa using ho
      exact ⟨u.1, gsAll_at (i := i) hgs ho2 hu, (h1 W hb).at (i := i) ho2 hu⟩
  have start : ∀ L : Nat → Bool, (∀ j, L j = false) → Laid l.toArray vs.length (layV l.toArray 0 vals a0) a0 L a0 := fun L hL =>
    ⟨hsz.2.symm, hsz.1.symm, fun j t _ hl => (by rw [hL] at hl; cases hl), fun _ _ => rfl⟩
  cases draw with
  | true =>
    refine wp_region_any hm (wpAny_vals vs.length _ a0 w0 vals hlen hok rfl hres h2 _ _ _ _ (by simp) (fun j _ hj => ?_) ?_ ⟨rfl, rfl, rfl, Nat.le_refl _, fun _ _ => rfl⟩ (start _ fun j => ?_))
    · simp at hj
      simp [hj]
    · exact Nat.le_trans (List.length_filter_le _ _) (by simp)
    · simp only [Array.getD_eq_getD_getElem?, Array.getElem?_replicate]
      split <;> rfl
  | false =>
    have := wpList_vals vs.length _ a0 w0 vals hlen hok rfl hres h2 vs.length 0 a0 w0 (by omega) (by omega) (Below.refl _ _) (start _ fun j => by simp)
    exact wp_region_lit (by simpa using this)
theorem wp_region_valsA {P : Program} {Q : Exit → Act → World → Prop} {id : Nat} {draw : Bool} {l : List Oper} (vs : List (Gs × Value)) {a0 : Act} {w0 : World} (hm : P.follows .mixedOrders = true) (hok : (regOk l.toArray vs.length a0.tmps.size && gsAll l.toArray l vs) = true)
    (h : ∀ F A : Act, A = a0 → F = layV l.toArray 0 (vs.map (·.2)) A → (∀ W, Below w0.heap.size w0 W → ResL P F W l vs) ∧ ∀ W, Below w0.heap.size w0 W → wpList P l.toArray Q (l.drop vs.length) F W) :
    (Code.region id l.toArray draw).wp P Q a0 w0 := wp_region_vals vs hm hok fun F hF => h F a0 rfl hF
def putL : List (Nat × Value) → Act → Act
  | [], a => a
  | (k, v) :: r, a => putL r (a.put (some k) v)
/-- Facts on a frame's slots, all at once. -/
def HasL (F : Act) (L : List (Nat × Value)) : Prop := (L.map fun p => F.tmps[p.1]?) = (L.map fun p => some p.2)
theorem HasL.at {F : Act} {L : List (Nat × Value)} (h : HasL F L) (i : Nat) {k : Nat} {v : Value} (e : L[i]? = some (k, v)) : F.tmps[k]? = some v := by
  have : (L.map fun p => F.tmps[p.1]?)[i]? = (L.map fun p => some p.2)[i]? := by rw [show (L.map fun p => F.tmps[p.1]?) = _ from h]
  rw [List.getElem?_map, List.getElem?_map, e] at this
  simpa using this
/-- A value behind a guard. -/
def gd (b want : Bool) (v : Value) : Value := match b, want with
  | true, true => v
  | false, false => v
  | _, _ => undef
theorem gd_ff (v : Value) : gd false false v = v := rfl
theorem gd_tt (v : Value) : gd true true v = v := rfl
section
variable {P : Program} {F : Act} {W : World} {o : Oper} {v : Value}
theorem OpRes.val (h : (execOp F.eval o).run P W = .ok (.value v) W) : OpRes P F W o none v := by
  unfold OpRes isGo
  rw [h]
  simp only [if_true]
  exact ⟨trivial, Below.refl _ _⟩
theorem OpRes.call (f : FuncId) (args : Array Value) (h : (execOp F.eval o).run P W = .ok (.enter f args) W) (hc : Calls P f args W (fun e W'' => e = .returned v ∧ Below W.heap.size W W'')) : OpRes P F W o none v := by
  unfold OpRes isGo
  rw [h]
  simp only [if_true]
  exact hc
theorem OpRes.gval {s : Nat} {want b : Bool} (hb : F.tmps[s]? = some (.bool b)) (h : b = want → (execOp F.eval o).run P W = .ok (.value v) W) : OpRes P F W o (some (s, want)) (gd b want v) := by
  unfold OpRes isGo
  simp only [hb]
  by_cases e : b = want
  · rw [h e, if_pos (by simpa using e)]
    subst e
    exact ⟨by cases b <;> rfl, Below.refl _ _⟩
  · rw [if_neg (by simpa using e)]
    revert e
    cases b <;> cases want <;> simp [gd]
theorem OpRes.gcall {s : Nat} {want b : Bool} (f : FuncId) (args : Array Value) (hb : F.tmps[s]? = some (.bool b)) (h : b = want → (execOp F.eval o).run P W = .ok (.enter f args) W) (hc : b = want → Calls P f args W (fun e W'' => e = .returned v ∧ Below W.heap.size W W'')) : OpRes P F W o (some (s, want)) (gd b want v) := by
  unfold OpRes isGo
  simp only [hb]
  by_cases e : b = want
  · rw [h e, if_pos (by simpa using e)]
    have := hc e
    subst e
    have e2 : gd b b v = v := by cases b <;> rfl
    rw [e2]
    exact this
  · rw [if_neg (by simpa using e)]
    revert e
    cases b <;> cases want <;> simp [gd]
/-- Guards within guards. -/
theorem isGo_nn {s : Nat} {w0 want b b2 : Bool} (hb : F.tmps[s]? = some (gd b w0 (.bool b2))) : isGo F (some (s, want)) = (b == w0 && b2 == want) := by
  unfold isGo
  simp only [hb]
  cases b <;> cases w0 <;> simp [gd] <;> rfl
theorem gd_ne {b w0 : Bool} (h : ¬ b = w0) (v : Value) : gd b w0 v = undef := by
  revert h
  cases b <;> cases w0 <;> simp [gd]
theorem gd_eq {b w0 : Bool} (h : b = w0) (v : Value) : gd b w0 v = v := by
  subst h
  cases b <;> rfl
theorem OpRes.nnval {s : Nat} {w0 want b b2 : Bool} (hb : F.tmps[s]? = some (gd b w0 (.bool b2))) (h : b = w0 → b2 = want → (execOp F.eval o).run P W = .ok (.value v) W) : OpRes P F W o (some (s, want)) (gd b w0 (gd b2 want v)) := by
  unfold OpRes
  rw [isGo_nn hb]
  by_cases e : b = w0
  · by_cases e2 : b2 = want
    · rw [h e e2, if_pos (by simp [e, e2]), gd_eq e, gd_eq e2]
      exact ⟨rfl, Below.refl _ _⟩
    · rw [if_neg (by simp [e2]), gd_eq e, gd_ne e2]
  · rw [if_neg (by simp [e]), gd_ne e]
theorem OpRes.nncall {s : Nat} {w0 want b b2 : Bool} (f : FuncId) (args : Array Value) (hb : F.tmps[s]? = some (gd b w0 (.bool b2))) (h : b = w0 → b2 = want → (execOp F.eval o).run P W = .ok (.enter f args) W)
    (hc : b = w0 → b2 = want → Calls P f args W (fun e W'' => e = .returned v ∧ Below W.heap.size W W'')) : OpRes P F W o (some (s, want)) (gd b w0 (gd b2 want v)) := by
  unfold OpRes
  rw [isGo_nn hb]
  by_cases e : b = w0
  · by_cases e2 : b2 = want
    · rw [h e e2, if_pos (by simp [e, e2]), gd_eq e, gd_eq e2]
      exact hc e e2
    · rw [if_neg (by simp [e2]), gd_eq e, gd_ne e2]
  · rw [if_neg (by simp [e]), gd_ne e]
theorem OpRes.nval {s : Nat} {w0 want b : Bool} (hb : F.tmps[s]? = some (gd b w0 (.bool want))) (h : b = w0 → (execOp F.eval o).run P W = .ok (.value v) W) : OpRes P F W o (some (s, want)) (gd b w0 v) := by
  have := OpRes.nnval (o := o) (v := v) (want := want) hb fun e _ => h e
  rwa [gd_eq (rfl : want = want)] at this
theorem OpRes.ncall {s : Nat} {w0 want b : Bool} (f : FuncId) (args : Array Value) (hb : F.tmps[s]? = some (gd b w0 (.bool want))) (h : b = w0 → (execOp F.eval o).run P W = .ok (.enter f args) W)
    (hc : b = w0 → Calls P f args W (fun e W'' => e = .returned v ∧ Below W.heap.size W W'')) : OpRes P F W o (some (s, want)) (gd b w0 v) := by
  have := OpRes.nncall (o := o) (v := v) (want := want) f args hb (fun e _ => h e) fun e _ => hc e
  rwa [gd_eq (rfl : want = want)] at this
def isB (u : Value) (want : Bool) : Bool := match u with | .bool b => b == want | _ => false
theorem OpRes.skip {s : Nat} {want : Bool} {u : Value} (hb : F.tmps[s]? = some u) (hu : isB u want = false) : OpRes P F W o (some (s, want)) undef := by
  have e : isGo F (some (s, want)) = isB u want := by
    unfold isGo
    simp only [hb]
    cases u <;> rfl
  unfold OpRes
  rw [e, hu]
  simp
theorem OpRes.goval {s : Nat} {want : Bool} (hb : F.tmps[s]? = some (.bool want)) (h : (execOp F.eval o).run P W = .ok (.value v) W) : OpRes P F W o (some (s, want)) v := by
  unfold OpRes isGo
  simp only [hb]
  rw [h]
  simp [Below.refl]
theorem OpRes.gocall {s : Nat} {want : Bool} (f : FuncId) (args : Array Value) (hb : F.tmps[s]? = some (.bool want)) (h : (execOp F.eval o).run P W = .ok (.enter f args) W) (hc : Calls P f args W (fun e W'' => e = .returned v ∧ Below W.heap.size W W'')) : OpRes P F W o (some (s, want)) v := by
  unfold OpRes isGo
  simp only [hb]
  rw [h]
  simpa using hc
theorem OpRes.to {gs : Gs} {u : Value} (e : v = u) (h : OpRes P F W o gs v) : OpRes P F W o gs u := e ▸ h
end
end Go.Proofs.YtgdibfnpkcdiiaaGreatDoor

/- A law for regions in which some operations only read, at any time: the others may be walked by themselves. No condition. -/
namespace Go.Proofs.YtgdibfnpkcdiiaaGreatDoor
open Go Go.RowKit

/-- What is told of an operation: a floating one's guard and value; or it is the next of the chain. -/
abbrev Told := Option (Gs × Value)
def isFl (vs : List Told) (j : Nat) : Bool := match vs[j]? with | some (some _) => true | _ => false
def isCh (vs : List Told) (j : Nat) : Bool := match vs[j]? with | some none => true | _ => false
def flOk (ops : Array Oper) (vs : List Told) (sz i : Nat) : Bool := match ops[i]? with
  | none => false
  | some o => (match o.dst with | some d => decide (d < sz) && (List.range vs.length).all (fun j => j == i || dstAt ops j != some d) | none => false)
     && o.after.all (fun e => !Region.binds .any e || (decide (e.on < i) && isFl vs e.on))
     && (o.looksAt ops).all (fun t => (List.range vs.length).all fun j => dstAt ops j != some t || needs o j || (isCh vs j && (match ops[j]? with | some c => needs c i | none => false)))
     && (match vs[i]? with | some (some v) => gsOk ops o v.1 | _ => false)
def chOk (ops : Array Oper) (vs : List Told) (i : Nat) : Bool := match ops[i]? with
  | none => false
  | some o => o.after.all (fun e => !Region.binds .any e || decide (e.on < i))
     && (o.looksAt ops).all (fun t => (List.range vs.length).all fun j => dstAt ops j != some t || isCh vs j || needs o j)
     && (match o.dst with | some d => (List.range vs.length).all (fun j => !isFl vs j || dstAt ops j != some d) | none => true)
def regOkB (ops : Array Oper) (vs : List Told) (sz : Nat) : Bool :=
  Region.noSelect ops && decide (vs.length = ops.size) && (List.range vs.length).all (fun i => if isFl vs i then flOk ops vs sz i else chOk ops vs i)
/-- The floating values laid into their slots. -/
def layF (ops : Array Oper) : Nat → List Told → Act → Act
  | _, [], a => a
  | i, none :: r, a => layF ops (i + 1) r a
  | i, some v :: r, a => layF ops (i + 1) r (a.put (dstAt ops i) v.2)
section
variable {P : Program} {ops : Array Oper} {Q : Exit → Act → World → Prop}
/-- The listed operations, and all that float. -/
def canon (vs : List Told) (listed : Array Bool) : Array Bool := ((List.range listed.size).map fun j => isFl vs j || listed.getD j false).toArray
theorem canon_size (vs : List Told) (listed : Array Bool) : (canon vs listed).size = listed.size := by simp [canon]
theorem canon_get (vs : List Told) (listed : Array Bool) (j : Nat) (d : Bool) (h : j < listed.size) : (canon vs listed).getD j d = (isFl vs j || listed.getD j false) := by
  simp [canon, h]
theorem canon_set (vs : List Told) (listed : Array Bool) (i : Nat) (hi : i < listed.size) : canon vs (listed.setIfInBounds i true) = (canon vs listed).setIfInBounds i true := by
  refine Array.ext (by simp [canon]) fun j h1 h2 => ?_
  have hj : j < listed.size := by simpa [canon] using h1
  by_cases hji : i = j
  · subst hji
    simp [canon, hi]
  · simp [canon, hji, Array.getElem?_setIfInBounds_ne hji]
theorem canon_float (vs : List Told) (listed : Array Bool) (i : Nat) (hf : isFl vs i = true) : canon vs (listed.setIfInBounds i true) = canon vs listed := by
  refine Array.ext (by simp [canon]) fun j h1 h2 => ?_
  by_cases hji : i = j
  · subst hji
    simp [canon, hf]
  · simp [canon, Array.getElem?_setIfInBounds_ne hji]

theorem layF_size : ∀ (vs : List Told) (i : Nat) (a : Act), (layF ops i vs a).tmps.size = a.tmps.size ∧ (layF ops i vs a).defers = a.defers
  | [], _, _ => ⟨rfl, rfl⟩
  | none :: r, i, a => layF_size r (i + 1) a
  | some v :: r, i, a => by
    have ih := layF_size r (i + 1) (a.put (dstAt ops i) v.2)
    rw [layF, ih.1, ih.2]
    cases dstAt ops i <;> simp [Act.put]
theorem layF_not : ∀ (vs : List Told) (i : Nat) (a : Act) (t : Nat), (∀ j, isFl vs j = true → dstAt ops (i + j) ≠ some t) → (layF ops i vs a).tmps[t]? = a.tmps[t]?
  | [], _, _, _, _ => rfl
  | none :: r, i, a, t, h => by
    rw [layF]
    exact layF_not r (i + 1) a t fun j hj => by have := h (j + 1) (by simpa [isFl] using hj); rwa [show i + 1 + j = i + (j + 1) by omega]
  | some v :: r, i, a, t, h => by
    rw [layF, layF_not r (i + 1) _ t fun j hj => by have := h (j + 1) (by simpa [isFl] using hj); rwa [show i + 1 + j = i + (j + 1) by omega]]
    have h0 := h 0 rfl
    rw [Nat.add_zero] at h0
    cases hd : dstAt ops i with
    | none => rfl
    | some d =>
      simp only [Act.put]
      rw [Array.getElem?_setIfInBounds_ne (fun e => h0 (by rw [hd, e]))]
theorem layF_at : ∀ (vs : List Told) (i : Nat) (a : Act) (j t : Nat) (v : Gs × Value), vs[j]? = some (some v) → dstAt ops (i + j) = some t → t < a.tmps.size → (∀ k, isFl vs k = true → k ≠ j → dstAt ops (i + k) ≠ some t) → (layF ops i vs a).tmps[t]? = some v.2
  | [], _, _, _, _, _, h, _, _, _ => by simp at h
  | none :: r, i, a, 0, t, v, h, hd, ht, hn => by simp at h
  | some u :: r, i, a, 0, t, v, h, hd, ht, hn => by
    simp at h
    subst h
    rw [layF, layF_not r (i + 1) _ t (fun k hk => by have := hn (k + 1) (by simpa [isFl] using hk) (by omega); rwa [show i + 1 + k = i + (k + 1) by omega])]
    rw [Nat.add_zero] at hd
    rw [hd]
    simp only [Act.put]
    rw [Array.getElem?_setIfInBounds_self_of_lt ht]
  | none :: r, i, a, j + 1, t, v, h, hd, ht, hn => by
    rw [layF]
    exact layF_at r (i + 1) a j t v (by simpa using h) (by rwa [show i + 1 + j = i + (j + 1) by omega]) ht (fun k hk hkj => by have := hn (k + 1) (by simpa [isFl] using hk) (by omega); rwa [show i + 1 + k = i + (k + 1) by omega])
  | some u :: r, i, a, j + 1, t, v, h, hd, ht, hn => by
    rw [layF]
    refine layF_at r (i + 1) _ j t v (by simpa using h) (by rwa [show i + 1 + j = i + (j + 1) by omega]) ?_ (fun k hk hkj => by have := hn (k + 1) (by simpa [isFl] using hk) (by omega); rwa [show i + 1 + k = i + (k + 1) by omega])
    cases dstAt ops i <;> simp [Act.put, ht]

theorem isFl_get {vs : List Told} {j : Nat} (h : isFl vs j = true) : ∃ v, vs[j]? = some (some v) := by
  unfold isFl at h
  cases hv : vs[j]? with
  | none => rw [hv] at h; cases h
  | some x =>
    cases x with
    | none => rw [hv] at h; cases h
    | some v => exact ⟨v, rfl⟩
theorem isFl_lt {vs : List Told} {j : Nat} (h : isFl vs j = true) : j < vs.length := by
  obtain ⟨v, hv⟩ := isFl_get h
  exact (List.getElem?_eq_some_iff.1 hv).1
theorem needs_spec {o : Oper} {j : Nat} (h : needs o j = true) : ∃ e ∈ o.after, Region.binds .any e = true ∧ e.on = j := by
  unfold needs at h
  rw [← Array.any_toList, List.any_eq_true] at h
  obtain ⟨e, he, hh⟩ := h
  simp only [Bool.and_eq_true, beq_iff_eq] at hh
  exact ⟨e, Array.mem_toList_iff.1 he, hh.1, hh.2⟩
theorem isCh_of {vs : List Told} {j : Nat} (hj : j < vs.length) (h : isFl vs j = false) : isCh vs j = true := by
  unfold isFl at h
  unfold isCh
  rw [List.getElem?_eq_getElem hj] at h ⊢
  cases hx : vs[j] with
  | none => rfl
  | some v => rw [hx] at h; cases h
theorem not_both {vs : List Told} {j : Nat} (h : isCh vs j = true) : isFl vs j = false := by
  unfold isCh at h
  unfold isFl
  cases hv : vs[j]? with
  | none => rfl
  | some x =>
    cases x with
    | none => rfl
    | some v => rw [hv] at h; cases h

/-- A floating operation leaves its value and nothing else. -/
def FlRes (P : Program) (F : Act) (W : World) (o : Oper) (gs : Gs) (v : Value) : Prop :=
  if isGo F gs = true then (execOp F.eval o).run P W = .ok (.value v) W else undef = v
def ResF (P : Program) (F : Act) (W : World) : List Oper → List Told → Prop
  | o :: os, some v :: vs => FlRes P F W o v.1 v.2 ∧ ResF P F W os vs
  | _ :: os, none :: vs => ResF P F W os vs
  | _, _ => True
theorem ResF.at {F : Act} {W : World} : ∀ {os : List Oper} {vs : List Told} {i : Nat} {o : Oper} {v : Gs × Value}, ResF P F W os vs → os[i]? = some o → vs[i]? = some (some v) → FlRes P F W o v.1 v.2
  | [], _, _, _, _, _, h, _ => by simp at h
  | _ :: _, [], _, _, _, _, _, h => by simp at h
  | o :: os, none :: vs, 0, _, _, hr, h, k => by simp at k
  | o :: os, some v :: vs, 0, _, _, hr, h, k => by simp at h k; subst h k; exact hr.1
  | o :: os, none :: vs, i + 1, _, _, hr, h, k => ResF.at (os := os) (vs := vs) (i := i) hr (by simpa using h) (by simpa using k)
  | o :: os, some v :: vs, i + 1, _, _, hr, h, k => ResF.at (os := os) (vs := vs) (i := i) hr.2 (by simpa using h) (by simpa using k)

theorem upon_move {o : Oper} {A a : Act} (hd : a.defers = A.defers) {K1 K2 : Act → World → Prop} (hK : ∀ ds v W', K1 (Act.put ⟨A.tmps, ds⟩ o.dst v) W' → K2 (Act.put ⟨a.tmps, ds⟩ o.dst v) W')
    (hQ : ∀ c W', Q (.panic c) A W' → Q (.panic c) a W') (r : Result Next) (h : Oper.upon P o A K1 Q r) : Oper.upon P o a K2 Q r := by
  have hput : ∀ v, A.put o.dst v = Act.put ⟨A.tmps, A.defers⟩ o.dst v := fun _ => rfl
  have hput2 : ∀ v, a.put o.dst v = Act.put ⟨a.tmps, A.defers⟩ o.dst v := fun _ => by rw [← hd]
  cases r with
  | ok n w' =>
    cases n with
    | value v => simp only [Oper.upon] at h ⊢; rw [hput2]; exact hK _ _ _ h
    | skip => simp only [Oper.upon] at h ⊢; rw [hput2]; exact hK _ _ _ h
    | defer d => simp only [Oper.upon] at h ⊢; rw [hd]; exact hK _ _ _ h
    | enter f args =>
      simp only [Oper.upon] at h ⊢
      refine Calls.mono h fun e w'' he => ?_
      cases e with
      | returned u => simp only at he ⊢; rw [hput2]; exact hK _ _ _ he
      | panicked c => exact hQ _ _ he
      | outgrown => exact he
    | row row args =>
      simp only [Oper.upon] at h ⊢
      refine Rows.mono h fun u w'' he => ?_
      rw [hput2]
      exact hK _ _ _ he
    | _ => exact h.elim
  | halt x w' =>
    cases x with
    | panic v => simp only [Oper.upon] at h ⊢; exact hQ _ _ h
    | _ => exact h.elim

theorem flOk_spec {vs : List Told} {sz i : Nat} (h : flOk ops vs sz i = true) : ∃ o d v, ops[i]? = some o ∧ o.dst = some d ∧ dstAt ops i = some d ∧ d < sz ∧ vs[i]? = some (some v) ∧ gsOk ops o v.1 = true ∧ (∀ j, j < vs.length → j ≠ i → dstAt ops j ≠ some d) ∧
    (∀ e ∈ o.after, Region.binds .any e = true → e.on < i ∧ isFl vs e.on = true) ∧ ∀ t ∈ o.looksAt ops, ∀ j, j < vs.length → dstAt ops j = some t → needs o j = true ∨ (isCh vs j = true ∧ ∃ c, ops[j]? = some c ∧ needs c i = true) := by
  unfold flOk at h
  cases ho : ops[i]? with
  | none => rw [ho] at h; cases h
  | some o =>
    rw [ho] at h
    simp only [Bool.and_eq_true] at h
    obtain ⟨⟨⟨h1, h2⟩, h3⟩, h4⟩ := h
    cases hd : o.dst with
    | none => rw [hd] at h1; cases h1
    | some d =>
      rw [hd] at h1
      simp only [Bool.and_eq_true, decide_eq_true_eq, List.all_eq_true, List.mem_range, Bool.or_eq_true, beq_iff_eq, bne_iff_ne] at h1
      rw [Array.all_eq_true_iff_forall_mem] at h2
      simp only [List.all_eq_true, List.mem_range, Bool.or_eq_true, bne_iff_ne, Bool.and_eq_true] at h3
      have hv : ∃ v, vs[i]? = some (some v) ∧ gsOk ops o v.1 = true := by
        cases hx : vs[i]? with
        | none => rw [hx] at h4; cases h4
        | some x =>
          cases x with
          | none => rw [hx] at h4; cases h4
          | some v => rw [hx] at h4; exact ⟨v, rfl, h4⟩
      obtain ⟨v, hv1, hv2⟩ := hv
      refine ⟨o, d, v, rfl, hd, by unfold dstAt; rw [ho]; exact hd, h1.1, hv1, hv2, fun j hj hji => (h1.2 j hj).resolve_left hji, fun e he hb => ?_, fun t ht j hj hdj => ?_⟩
      · have := h2 e he
        rw [hb] at this
        simpa using this
      · rcases h3 t ht j hj with (hh | hh) | hh
        · exact absurd hdj hh
        · exact Or.inl hh
        · refine Or.inr ⟨hh.1, ?_⟩
          cases hc : ops[j]? with
          | none => rw [hc] at hh; cases hh.2
          | some c => rw [hc] at hh; exact ⟨c, rfl, hh.2⟩
theorem chOk_spec {vs : List Told} {i : Nat} (h : chOk ops vs i = true) : ∃ o, ops[i]? = some o ∧ (∀ e ∈ o.after, Region.binds .any e = true → e.on < i) ∧
    (∀ t ∈ o.looksAt ops, ∀ j, j < vs.length → dstAt ops j = some t → isCh vs j = true ∨ needs o j = true) ∧ ∀ j, j < vs.length → isFl vs j = true → ∀ d, o.dst = some d → dstAt ops j ≠ some d := by
  unfold chOk at h
  cases ho : ops[i]? with
  | none => rw [ho] at h; cases h
  | some o =>
    rw [ho] at h
    simp only [Bool.and_eq_true] at h
    obtain ⟨⟨h2, h3⟩, h4⟩ := h
    rw [Array.all_eq_true_iff_forall_mem] at h2
    simp only [List.all_eq_true, List.mem_range, Bool.or_eq_true, bne_iff_ne] at h3
    refine ⟨o, rfl, fun e he hb => ?_, fun t ht j hj hd => ?_, fun j hj hf d hd => ?_⟩
    · have := h2 e he
      rw [hb] at this
      simpa using this
    · rcases h3 t ht j hj with (hh | hh) | hh
      · exact absurd hd hh
      · exact Or.inl hh
      · exact Or.inr hh
    · rw [hd] at h4
      simp only [List.all_eq_true, List.mem_range, Bool.or_eq_true, bne_iff_ne, Bool.not_eq_true'] at h4
      exact (h4 j hj).resolve_left (by rw [hf]; simp)

def aft (ops : Array Oper) (i : Nat) : List Nat := match ops[i]? with | some o => (o.after.toList.filter (Region.binds .any)).map (·.on) | none => []
def mark (ops : Array Oper) : Nat → List Nat → List Nat
  | 0, L => L
  | k + 1, L => mark ops k (if L.contains k then aft ops k ++ L else L)
/-- Does it hang on all that float? -/
def needsAll (vs : List Told) (ops : Array Oper) (i : Nat) : Bool := (List.range ops.size).all fun j => !isFl vs j || (mark ops (i + 1) [i]).contains j
theorem mark_spec {ops : Array Oper} {p : Nat → Prop} (h : ∀ k, p k → ∀ e ∈ aft ops k, p e) : ∀ (k : Nat) (L : List Nat), (∀ x ∈ L, p x) → ∀ x ∈ mark ops k L, p x
  | 0, L, hL => hL
  | k + 1, L, hL => by
    refine mark_spec h k _ fun x hx => ?_
    split at hx
    · rename_i hk
      rcases List.mem_append.1 hx with hx | hx
      · exact h k (hL k (by simpa using hk)) x hx
      · exact hL x hx
    · exact hL x hx
/-- The operations that do not float, in any order that there may be; S holds of each world but behind an operation that comes behind all others. -/
def wpAnyS (P : Program) (vs : List Told) (ops : Array Oper) (Q : Exit → Act → World → Prop) (S : World → Prop) : Nat → Array Bool → Act → World → Prop
  | 0, listed, a, w => Region.ready .any ops listed = [] ∧ Q .normal a w
  | fuel + 1, listed, a, w => (Region.ready .any ops listed = [] → Q .normal a w) ∧ ∀ i ∈ Region.ready .any ops listed, wpOp P ops Q i (fun a' w' => (S w' ∨ needsAll vs ops i = true) ∧ wpAnyS P vs ops Q S fuel (listed.setIfInBounds i true) a' w') a w
/-- What holds while the region's operations come up. -/
structure Mid (P : Program) (ops : Array Oper) (Q : Exit → Act → World → Prop) (vs : List Told) (F : Act) (S : World → Prop) (listed : Array Bool) (a : Act) (W : World) (A : Act) : Prop where
  size : listed.size = ops.size
  defers : a.defers = A.defers
  tsize : a.tmps.size = A.tmps.size
  asize : A.tmps.size = F.tmps.size
  same : ∀ t, (∀ j, isFl vs j = true → listed.getD j false = false → dstAt ops j ≠ some t) → a.tmps[t]? = A.tmps[t]?
  float : ∀ j v t, vs[j]? = some (some v) → dstAt ops j = some t → A.tmps[t]? = some v.2
  still : ∀ t, (∀ j, isCh vs j = true → listed.getD j false = true → dstAt ops j ≠ some t) → A.tmps[t]? = F.tmps[t]?
  deps : ∀ j o, ops[j]? = some o → listed.getD j false = true → ∀ e ∈ o.after, Region.binds .any e = true → listed.getD e.on false = true
  world : S W ∨ ∀ j, isFl vs j = true → listed.getD j false = true
  rest : ∃ k, wpAnyS P vs ops Q S k (canon vs listed) A W

theorem wpAny_float (S : World → Prop) (vs : List Told) (F : Act) (hok : regOkB ops vs F.tmps.size = true) (hQ : ∀ c a a' w, a.defers = a'.defers → Q (.panic c) a w → Q (.panic c) a' w)
    (hres : ∀ W, S W → ∀ (i : Nat) (o : Oper) (v : Gs × Value), ops[i]? = some o → vs[i]? = some (some v) → FlRes P F W o v.1 v.2) :
    ∀ (fuel : Nat) (listed : Array Bool) (a : Act) (W : World) (A : Act), ((List.range ops.size).filter fun j => !listed.getD j false).length ≤ fuel → Mid P ops Q vs F S listed a W A → wpAny P .any ops Q fuel listed a W := by
  have hk := hok
  unfold regOkB at hk
  simp only [Bool.and_eq_true, decide_eq_true_eq, List.all_eq_true, List.mem_range] at hk
  obtain ⟨⟨hsel, hlen⟩, hops⟩ := hk
  have hfl : ∀ i, isFl vs i = true → flOk ops vs F.tmps.size i = true := fun i hi => by
    have := hops i (isFl_lt hi)
    rwa [if_pos hi] at this
  have hch : ∀ i, i < vs.length → isFl vs i = false → chOk ops vs i = true := fun i hi hf => by
    have := hops i hi
    rwa [if_neg (by rw [hf]; simp)] at this
  have hlt : ∀ i o, ops[i]? = some o → ∀ e ∈ o.after, Region.binds .any e = true → e.on < i := by
    intro i o ho e he hb
    have hi : i < vs.length := by rw [hlen]; exact (Array.getElem?_eq_some_iff.1 ho).1
    cases hf : isFl vs i with
    | true =>
      obtain ⟨o', d, v, ho', _, _, _, _, _, _, h, _⟩ := flOk_spec (hfl i hf)
      rw [ho] at ho'; injection ho' with e'; subst e'
      exact (h e he hb).1
    | false =>
      obtain ⟨o', ho', h, _, _⟩ := chOk_spec (hch i hi hf)
      rw [ho] at ho'; injection ho' with e'; subst e'
      exact h e he hb
  have getD_eq : ∀ (listed : Array Bool) (j : Nat), j < listed.size → listed.getD j false = listed.getD j true := by
    intro listed j hj
    simp [hj]
  have done : ∀ (listed : Array Bool), listed.size = ops.size → Region.ready .any ops listed = [] → ∀ j, j < ops.size → listed.getD j false = true := by
    intro listed hsz hr j
    induction j using Nat.strongRecOn with
    | ind j ih =>
      intro hj
      cases hl : listed.getD j false with
      | true => rfl
      | false =>
        exfalso
        have ho : ops[j]? = some ops[j] := Array.getElem?_eq_getElem hj
        have : j ∈ Region.ready .any ops listed := mem_ready.2 ⟨by rw [← getD_eq listed j (by omega)]; exact hl, _, ho, fun e he hb => ih e.on (hlt j _ ho e he hb) (by have := hlt j _ ho e he hb; omega)⟩
        rw [hr] at this
        simp at this
  have ends : ∀ (listed : Array Bool) (a : Act) (W : World) (A : Act), Mid P ops Q vs F S listed a W A → Region.ready .any ops listed = [] → Q .normal a W := by
    intro listed a W A h hr
    have hall := done listed h.size hr
    have haA : a = A := by
      have h1 := h.defers
      have h2 : a.tmps = A.tmps := Array.ext_getElem? fun t => h.same t fun j hj hlj => by
        rw [hall j (by rw [← hlen]; exact isFl_lt hj)] at hlj
        cases hlj
      cases a; cases A
      simp only at h1 h2
      rw [h1, h2]
    obtain ⟨k, hk⟩ := h.rest
    have hr2 : Region.ready .any ops (canon vs listed) = [] := by
      cases hr2 : Region.ready .any ops (canon vs listed) with
      | nil => rfl
      | cons i r =>
        have hi : i ∈ Region.ready .any ops (canon vs listed) := by rw [hr2]; simp
        obtain ⟨h0, o, ho, _⟩ := mem_ready.1 hi
        have hio := (Array.getElem?_eq_some_iff.1 ho).1
        rw [canon_get _ _ _ _ (by rw [h.size]; exact hio), hall i hio] at h0
        simp at h0
    rw [haA]
    cases k with
    | zero => exact hk.2
    | succ k => exact hk.1 hr2
  intro fuel
  induction fuel with
  | zero =>
    intro listed a W A hfu h
    have hr : Region.ready .any ops listed = [] := by
      cases hr : Region.ready .any ops listed with
      | nil => rfl
      | cons i r =>
        have hi : i ∈ Region.ready .any ops listed := by rw [hr]; simp
        obtain ⟨h0, o, ho, _⟩ := mem_ready.1 hi
        have hio := (Array.getElem?_eq_some_iff.1 ho).1
        have : i ∈ (List.range ops.size).filter fun j => !listed.getD j false := List.mem_filter.2 ⟨List.mem_range.2 hio, by rw [getD_eq listed i (by rw [h.size]; exact hio), h0]; rfl⟩
        have := List.length_pos_of_mem this
        omega
    exact ⟨hr, ends listed a W A h hr⟩
  | succ fuel ih =>
    intro listed a W A hfu h
    refine ⟨fun hr => ends listed a W A h hr, fun i hi => ?_⟩
    obtain ⟨h0, o, ho, haft⟩ := mem_ready.1 hi
    have hio := (Array.getElem?_eq_some_iff.1 ho).1
    have hil : i < listed.size := by rw [h.size]; exact hio
    have hi0 : listed.getD i false = false := by rw [getD_eq listed i hil]; exact h0
    have hset : ∀ j, (listed.setIfInBounds i true).getD j false = (j == i || listed.getD j false) := by
      intro j
      by_cases hji : i = j
      · subst hji
        simp [hil]
      · rw [getD_set_ne false hji]
        simp [Ne.symm hji]
    have hcount : ((List.range ops.size).filter fun j => !(listed.setIfInBounds i true).getD j false).length ≤ fuel := by
      have e : ((List.range ops.size).filter fun j => !(listed.setIfInBounds i true).getD j false) = ((List.range ops.size).filter fun j => !listed.getD j false).filter (fun j => j != i) := by
        rw [List.filter_filter]
        refine List.filter_congr fun j hj => ?_
        rw [hset]
        by_cases hji : j = i
        · subst hji; simp
        · simp [bne, show (j == i) = false by simpa using hji]
      have hmem : i ∈ (List.range ops.size).filter fun j => !listed.getD j false := List.mem_filter.2 ⟨List.mem_range.2 hio, by rw [hi0]; rfl⟩
      have := (List.length_filter_lt_length_iff_exists (p := fun j => j != i)).2 ⟨i, hmem, by simp⟩
      rw [e]
      omega
    have hdeps : ∀ j o', ops[j]? = some o' → (listed.setIfInBounds i true).getD j false = true → ∀ e ∈ o'.after, Region.binds .any e = true → (listed.setIfInBounds i true).getD e.on false = true := by
      intro j o' ho' hj e he hb
      rw [hset] at hj ⊢
      by_cases hji : j = i
      · subst hji
        rw [ho] at ho'; injection ho' with e'; subst e'
        rw [haft e he hb]
        simp
      · have hj : listed.getD j false = true := by simpa [hji] using hj
        rw [h.deps j o' ho' hj e he hb]
        simp
    cases hf : isFl vs i with
    | true =>
      obtain ⟨o', d, v, ho', hd, hda, hdl, hv, hgs, hdis, hafl, hlook⟩ := flOk_spec (hfl i hf)
      rw [ho] at ho'; injection ho' with e'; subst e'
      have hag : ∀ t ∈ o.looksAt ops, a.tmps[t]? = F.tmps[t]? := by
        intro t ht
        have h1 : a.tmps[t]? = A.tmps[t]? := by
          refine h.same t fun j hj hlj hdj => ?_
          rcases hlook t ht j (isFl_lt hj) hdj with hn | ⟨hc, _⟩
          · obtain ⟨e, he, hb, rfl⟩ := needs_spec hn
            rw [haft e he hb] at hlj
            cases hlj
          · rw [not_both hc] at hj; cases hj
        rw [h1]
        refine h.still t fun j hj hlj hdj => ?_
        have hjl : j < vs.length := by
          unfold isCh at hj
          cases hx : vs[j]? with
          | none => rw [hx] at hj; cases hj
          | some x => exact (List.getElem?_eq_some_iff.1 hx).1
        rcases hlook t ht j hjl hdj with hn | ⟨_, c, hc, hn⟩
        · obtain ⟨e, he, hb, rfl⟩ := needs_spec hn
          have := (hafl e he hb).2
          rw [not_both hj] at this
          cases this
        · obtain ⟨e, he, hb, rfl⟩ := needs_spec hn
          have := h.deps j c hc hlj e he hb
          rw [hi0] at this
          cases this
      obtain ⟨e1, e2⟩ := exec_agree (ops := ops) o (fun cs b => Region.noSelect_spec hsel i o cs b ho) a F hag
      have hSW : S W := h.world.resolve_right fun hh => by rw [hh i hf] at hi0; cases hi0
      have hr := hres W hSW i o v ho hv
      have hnext : wpAny P .any ops Q fuel (listed.setIfInBounds i true) (a.put o.dst v.2) W := by
        refine ih _ _ _ A hcount ⟨by simp [h.size], by rw [hd]; exact h.defers, by rw [hd]; simp [Act.put, h.tsize], h.asize, fun t ht => ?_, h.float, fun t ht => ?_, hdeps, Or.inl hSW, ?_⟩
        · rw [hd]
          simp only [Act.put]
          by_cases hdt : d = t
          · subst hdt
            rw [Array.getElem?_setIfInBounds_self_of_lt (by rw [h.tsize, h.asize]; exact hdl)]
            exact (h.float i v d hv hda).symm
          · rw [Array.getElem?_setIfInBounds_ne hdt]
            refine h.same t fun j hj hlj => ?_
            by_cases hji : j = i
            · subst hji
              rw [hda]
              intro e
              injection e with e
              exact hdt e
            · exact ht j hj (by rw [hset, hlj]; simp [hji])
        · refine h.still t fun j hj hlj => ht j hj (by rw [hset, hlj]; simp)
        · rw [canon_float vs listed i hf]; exact h.rest
      unfold Go.wpOp
      simp only [ho]
      rw [e2, wanted_go hgs]
      unfold FlRes at hr
      split
      · rename_i hw
        rw [if_pos hw] at hr
        refine Or.inl ?_
        unfold Oper.wp
        rw [e1, hr]
        exact hnext
      · rename_i hw
        rw [if_neg hw] at hr
        rw [hr]
        exact hnext
    | false =>
      have hil2 : i < vs.length := by rw [hlen]; exact hio
      have hci := isCh_of hil2 hf
      obtain ⟨o', ho', hbe, hlook, hdis⟩ := chOk_spec (hch i hil2 hf)
      rw [ho] at ho'; injection ho' with e'; subst e'
      have hag : ∀ t ∈ o.looksAt ops, a.tmps[t]? = A.tmps[t]? := by
        intro t ht
        refine h.same t fun j hj hlj hdj => ?_
        rcases hlook t ht j (isFl_lt hj) hdj with hc | hn
        · rw [not_both hc] at hj; cases hj
        · obtain ⟨e, he, hb, rfl⟩ := needs_spec hn
          rw [haft e he hb] at hlj
          cases hlj
      obtain ⟨e1, e2⟩ := exec_agree (ops := ops) o (fun cs b => Region.noSelect_spec hsel i o cs b ho) a A hag
      obtain ⟨k, hk⟩ := h.rest
      have hir : i ∈ Region.ready .any ops (canon vs listed) := mem_ready.2 ⟨by rw [canon_get _ _ _ _ hil, hf, hi0]; rfl, o, ho, fun e he hb => by
        have hel := hbe e he hb
        rw [canon_get _ _ _ _ (by omega), haft e he hb]
        simp⟩
      obtain ⟨k, rfl⟩ : ∃ q, k = q + 1 := by
        cases k with
        | zero => rw [hk.1] at hir; simp at hir
        | succ k => exact ⟨k, rfl⟩
      have hc := hk.2 i hir
      have hnext : ∀ ds v W', ((S W' ∨ needsAll vs ops i = true) ∧ wpAnyS P vs ops Q S k ((canon vs listed).setIfInBounds i true) (Act.put ⟨A.tmps, ds⟩ o.dst v) W') → wpAny P .any ops Q fuel (listed.setIfInBounds i true) (Act.put ⟨a.tmps, ds⟩ o.dst v) W' := by
        intro ds v W' hcw
        refine ih _ _ _ (Act.put ⟨A.tmps, ds⟩ o.dst v) hcount ⟨by simp [h.size], ?_, ?_, ?_, fun t ht => ?_, fun j u t hj ht => ?_, fun t ht => ?_, hdeps, hcw.1.imp id (fun hn j hj => ?_), k, by rw [canon_set _ _ _ hil]; exact hcw.2⟩
        · cases o.dst <;> rfl
        · cases o.dst <;> simp [Act.put, h.tsize]
        · cases o.dst <;> simp [Act.put, h.asize]
        · have h1 : a.tmps[t]? = A.tmps[t]? := h.same t fun j hj hlj => ht j hj (by
            rw [hset, hlj]
            have : j ≠ i := fun e => by rw [e, hf] at hj; cases hj
            simp [this])
          cases hd : o.dst with
          | none => exact h1
          | some d =>
            simp only [Act.put]
            by_cases hdt : d = t
            · subst hdt
              by_cases hds : d < A.tmps.size
              · rw [Array.getElem?_setIfInBounds_self_of_lt hds, Array.getElem?_setIfInBounds_self_of_lt (by rw [h.tsize]; exact hds)]
              · have q1 : (a.tmps.setIfInBounds d v)[d]? = none := Array.getElem?_eq_none (by rw [Array.size_setIfInBounds, h.tsize]; exact Nat.le_of_not_lt hds)
                have q2 : (A.tmps.setIfInBounds d v)[d]? = none := Array.getElem?_eq_none (by rw [Array.size_setIfInBounds]; exact Nat.le_of_not_lt hds)
                rw [q1, q2]
            · rw [Array.getElem?_setIfInBounds_ne hdt, Array.getElem?_setIfInBounds_ne hdt]
              exact h1
        · have h1 := h.float j u t hj ht
          cases hd : o.dst with
          | none => exact h1
          | some d =>
            have hfj : isFl vs j = true := by unfold isFl; rw [hj]
            have hdt : d ≠ t := fun e => hdis j (isFl_lt hfj) hfj d hd (by rw [ht, e])
            simp only [Act.put]
            rw [Array.getElem?_setIfInBounds_ne hdt]
            exact h1
        · have h1 := h.still t fun j hj hlj => ht j hj (by rw [hset, hlj]; simp)
          cases hd : o.dst with
          | none => exact h1
          | some d =>
            have hdt : d ≠ t := fun e => ht i hci (by rw [hset]; simp) (by unfold dstAt; rw [ho]; simp [hd, e])
            simp only [Act.put]
            rw [Array.getElem?_setIfInBounds_ne hdt]
            exact h1
        · unfold needsAll at hn
          simp only [List.all_eq_true, List.mem_range, List.contains_iff_mem, Bool.or_eq_true, Bool.not_eq_true'] at hn
          have hj2 := (hn j (by rw [← hlen]; exact isFl_lt hj)).resolve_left (by rw [hj]; simp)
          have key := mark_spec (ops := ops) (p := fun k => k = i ∨ listed.getD k false = true) (fun k hk e he => by
            unfold aft at he
            cases hok : ops[k]? with
            | none => rw [hok] at he; simp at he
            | some o2 =>
              rw [hok] at he
              simp only [List.mem_map, List.mem_filter, Array.mem_toList_iff] at he
              obtain ⟨ed, ⟨he, hb⟩, rfl⟩ := he
              rcases hk with rfl | hk
              · rw [ho] at hok; injection hok with hok; subst hok
                exact Or.inr (haft ed he hb)
              · exact Or.inr (h.deps k o2 hok hk ed he hb)) (i + 1) [i] (fun x hx => Or.inl (by simpa using hx)) j hj2
          rw [hset]
          rcases key with e | e
          · simp [e]
          · simp [e]
      unfold Go.wpOp at hc
      simp only [ho] at hc
      unfold Go.wpOp
      simp only [ho]
      rw [e2]
      split
      · rename_i hw
        rw [if_pos hw] at hc
        rcases hc with hc | ⟨ha, hl⟩
        · refine Or.inl ?_
          unfold Oper.wp at hc ⊢
          rw [e1]
          exact upon_move h.defers (fun ds v W' hh => hnext ds v W' hh) (fun c W' hh => hQ c _ _ _ h.defers.symm hh) _ hc
        · refine Or.inr ⟨?_, hl⟩
          unfold Oper.asks at ha ⊢
          rw [e1]
          exact ha
      · rename_i hw
        rw [if_neg hw] at hc
        have := hnext A.defers undef W hc
        rw [← h.defers] at this
        exact this

end
/-- THE LAW. The floating operations' values; behind them the others, over a frame that is a letter. -/
theorem wp_region_float {P : Program} {Q : Exit → Act → World → Prop} {id : Nat} {l : List Oper} (vs : List Told) (S : World → Prop) (k : Nat) {a0 : Act} {w0 : World} (hm : P.follows .mixedOrders = true) (hQ : ∀ c a a' w, a.defers = a'.defers → Q (.panic c) a w → Q (.panic c) a' w) (hok : regOkB l.toArray vs a0.tmps.size = true) (hS : ∀ Wd, Wd.heap = w0.heap → Below w0.heap.size w0 Wd → S Wd)
    (h : ∀ (F A : Act) (Wd : World), A = a0 → F = layF l.toArray 0 vs A → Wd.heap = w0.heap → Below w0.heap.size w0 Wd → (∀ W, S W → ResF P F W l vs) ∧ wpAnyS P vs l.toArray Q S k ((List.range l.length).map (isFl vs)).toArray F Wd) :
    (Code.region id l.toArray true).wp P Q a0 w0 := by
  have hbd : Below w0.heap.size w0 { w0 with drawn := w0.drawn + 1 } := ⟨rfl, rfl, rfl, Nat.le_refl _, fun _ _ => rfl⟩
  obtain ⟨h1, h2⟩ := h _ a0 { w0 with drawn := w0.drawn + 1 } rfl rfl rfl hbd
  have hS := hS { w0 with drawn := w0.drawn + 1 } rfl hbd
  have hsz := (layF_size (ops := l.toArray) vs 0 a0)
  have hrep : ∀ j, (Array.replicate l.toArray.size false).getD j false = false := fun j => by
    simp only [Array.getD_eq_getD_getElem?, Array.getElem?_replicate]
    split <;> rfl
  have hok2 := hok
  unfold regOkB at hok2
  simp only [Bool.and_eq_true, decide_eq_true_eq, List.all_eq_true, List.mem_range] at hok2
  refine wp_region_any hm (wpAny_float S vs (layF l.toArray 0 vs a0) (by rw [hsz.1]; exact hok) hQ (fun W hb i o v ho hv => (h1 W hb).at (i := i) (by simpa using ho) hv) _ _ _ _ (layF l.toArray 0 vs a0) (Nat.le_trans (List.length_filter_le _ _) (by simp))
    ⟨by simp, hsz.2.symm, hsz.1.symm, rfl, fun t ht => ?_, fun j v t hj ht => ?_, fun _ _ => rfl, fun j o _ hl => (by rw [hrep] at hl; cases hl), Or.inl hS, k, ?_⟩)
  · exact (layF_not vs 0 a0 t fun j hj => by rw [Nat.zero_add]; exact ht j hj (hrep j)).symm
  · have hfj : isFl vs j = true := by unfold isFl; rw [hj]
    have hf2 := hok2.2 j (isFl_lt hfj)
    rw [if_pos hfj] at hf2
    obtain ⟨o, d, v', ho, hd, hda, hdl, hv', _, hdis, _, _⟩ := flOk_spec hf2
    rw [ht] at hda
    injection hda with e
    subst e
    exact layF_at vs 0 a0 j t v hj (by rw [Nat.zero_add]; exact ht) hdl fun k hk hkj => by rw [Nat.zero_add]; exact hdis k (isFl_lt hk) hkj
  · have e : canon vs (Array.replicate l.toArray.size false) = ((List.range l.length).map (isFl vs)).toArray := by
      unfold canon
      congr 1
      simp only [Array.size_replicate, List.size_toArray]
      refine List.map_congr_left fun j _ => ?_
      have := hrep j
      simp only [List.size_toArray] at this
      rw [this]
      simp
    rw [e]
    exact h2
section
variable {P : Program} {vs : List Told} {ops : Array Oper} {Q : Exit → Act → World → Prop} {S : World → Prop} {fuel : Nat} {listed : Array Bool} {a : Act} {w : World}
/-- One operation alone may come up. -/
theorem wpAnyS_one (i : Nat) {o : Oper} (ho : ops[i]? = some o) (hr : Region.ready .any ops listed = [i])
    (h : ∀ K : Act → World → Prop, Hid (∀ a' w', (S w' ∨ needsAll vs ops i = true) → wpAnyS P vs ops Q S fuel (listed.setIfInBounds i true) a' w' → K a' w') → if Region.wanted o (yielded ops a.tmps) = true then Oper.wp P o a w K Q else K (a.put o.dst undef) w) : wpAnyS P vs ops Q S (fuel + 1) listed a w := by
  refine ⟨fun hh => by rw [hr] at hh; simp at hh, fun j hj => ?_⟩
  rw [hr] at hj
  simp at hj
  subst hj
  have := h (fun a' w' => (S w' ∨ needsAll vs ops j = true) ∧ wpAnyS P vs ops Q S fuel (listed.setIfInBounds j true) a' w') (Lib.hid fun a' w' h1 h2 => ⟨h1, h2⟩)
  unfold Go.wpOp
  simp only [ho]
  split
  · rename_i hw
    rw [if_pos hw] at this
    exact Or.inl this
  · rename_i hw
    rw [if_neg hw] at this
    exact this
theorem wpAnyS_two (i j : Nat) {o p : Oper} (ho : ops[i]? = some o) (hp : ops[j]? = some p) (hr : Region.ready .any ops listed = [i, j])
    (h : ∀ K : Act → World → Prop, Hid (∀ a' w', (S w' ∨ needsAll vs ops i = true) → wpAnyS P vs ops Q S fuel (listed.setIfInBounds i true) a' w' → K a' w') → if Region.wanted o (yielded ops a.tmps) = true then Oper.wp P o a w K Q else K (a.put o.dst undef) w)
    (h2 : ∀ K : Act → World → Prop, Hid (∀ a' w', (S w' ∨ needsAll vs ops j = true) → wpAnyS P vs ops Q S fuel (listed.setIfInBounds j true) a' w' → K a' w') → if Region.wanted p (yielded ops a.tmps) = true then Oper.wp P p a w K Q else K (a.put p.dst undef) w) : wpAnyS P vs ops Q S (fuel + 1) listed a w := by
  refine ⟨fun hh => by rw [hr] at hh; simp at hh, fun q hq => ?_⟩
  rw [hr] at hq
  simp at hq
  rcases hq with rfl | rfl
  · have := h (fun a' w' => (S w' ∨ needsAll vs ops q = true) ∧ wpAnyS P vs ops Q S fuel (listed.setIfInBounds q true) a' w') (Lib.hid fun a' w' h1 h2 => ⟨h1, h2⟩)
    unfold Go.wpOp
    simp only [ho]
    split
    · rename_i hw
      rw [if_pos hw] at this
      exact Or.inl this
    · rename_i hw
      rw [if_neg hw] at this
      exact this
  · have := h2 (fun a' w' => (S w' ∨ needsAll vs ops q = true) ∧ wpAnyS P vs ops Q S fuel (listed.setIfInBounds q true) a' w') (Lib.hid fun a' w' h1 h2 => ⟨h1, h2⟩)
    unfold Go.wpOp
    simp only [hp]
    split
    · rename_i hw
      rw [if_pos hw] at this
      exact Or.inl this
    · rename_i hw
      rw [if_neg hw] at this
      exact this
theorem wpAnyS_end (hr : Region.ready .any ops listed = []) (h : Q .normal a w) : wpAnyS P vs ops Q S 0 listed a w := ⟨hr, h⟩
end
section
variable {P : Program} {F : Act} {W : World} {o : Oper} {v : Value}
theorem FlRes.val (h : (execOp F.eval o).run P W = .ok (.value v) W) : FlRes P F W o none v := by
  unfold FlRes isGo
  simpa using h
theorem FlRes.nnval {s : Nat} {w0 want b b2 : Bool} (hb : F.tmps[s]? = some (gd b w0 (.bool b2))) (h : b = w0 → b2 = want → (execOp F.eval o).run P W = .ok (.value v) W) : FlRes P F W o (some (s, want)) (gd b w0 (gd b2 want v)) := by
  unfold FlRes
  rw [isGo_nn hb]
  by_cases e : b = w0
  · by_cases e2 : b2 = want
    · rw [h e e2, if_pos (by simp [e, e2]), gd_eq e, gd_eq e2]
    · rw [if_neg (by simp [e2]), gd_eq e, gd_ne e2]
  · rw [if_neg (by simp [e]), gd_ne e]
theorem FlRes.nval {s : Nat} {w0 want b : Bool} (hb : F.tmps[s]? = some (gd b w0 (.bool want))) (h : b = w0 → (execOp F.eval o).run P W = .ok (.value v) W) : FlRes P F W o (some (s, want)) (gd b w0 v) := by
  have := FlRes.nnval (o := o) (v := v) (want := want) hb fun e _ => h e
  rwa [gd_eq (rfl : want = want)] at this
theorem FlRes.gval {s : Nat} {want b : Bool} (hb : F.tmps[s]? = some (.bool b)) (h : b = want → (execOp F.eval o).run P W = .ok (.value v) W) : FlRes P F W o (some (s, want)) (gd b want v) := by
  have := FlRes.nnval (P := P) (W := W) (o := o) (v := v) (want := want) (b := true) (w0 := true) (b2 := b) (F := F) (s := s) hb fun _ => h
  exact this
theorem FlRes.goval {s : Nat} {want : Bool} (hb : F.tmps[s]? = some (.bool want)) (h : (execOp F.eval o).run P W = .ok (.value v) W) : FlRes P F W o (some (s, want)) v := by
  have := FlRes.gval (o := o) (v := v) (want := want) hb fun _ => h
  rwa [gd_eq (rfl : want = want)] at this
theorem FlRes.skip {s : Nat} {want : Bool} {u : Value} (hb : F.tmps[s]? = some u) (hu : isB u want = false) : FlRes P F W o (some (s, want)) undef := by
  have e : isGo F (some (s, want)) = isB u want := by
    unfold isGo
    simp only [hb]
    cases u <;> rfl
  unfold FlRes
  rw [e, hu]
  simp
theorem FlRes.to {gs : Gs} {u : Value} (e : v = u) (h : FlRes P F W o gs v) : FlRes P F W o gs u := e ▸ h
theorem ResF.cons {os : List Oper} {vs : List Told} {gs : Gs} (h : FlRes P F W o gs v) (k : ResF P F W os vs) : ResF P F W (o :: os) (some (gs, v) :: vs) := ⟨h, k⟩
theorem ResF.pass {os : List Oper} {vs : List Told} (k : ResF P F W os vs) : ResF P F W (o :: os) (none :: vs) := k
theorem ResF.nil {os : List Oper} : ResF P F W os [] := by cases os <;> trivial
end
end Go.Proofs.YtgdibfnpkcdiiaaGreatDoor

/- slices.IndexFunc, slices.ContainsFunc of numbers, functions, instructions: whether there is one. By an AI agent. -/
namespace Go.Proofs.YtgdibfnpkcdiiaaGreatDoor
open Go.RowKit

set_option maxRecDepth 100000 in
set_option maxHeartbeats 4000000 in
theorem idx_ints (v : Value) (l : List Int) (F : Nat) (w : World) (b : Int → Bool) (h : IntsV w v l) (hl : l.length ≤ 1000000)
    (hent : ∀ a W, (callFunc F #[a]).run Tryz.prog W = .ok (.enter F #[a]) W)
    (hc : ∀ x ∈ l, ∀ W, Below w.heap.size w W → Calls Tryz.prog F #[(.int .i64 x)] W fun e W' => e = .returned (.bool (b x)) ∧ Below W.heap.size W W') :
    Calls Tryz.prog 107 #[v, .func (.func F) #[] #[]] w fun e w' => (∃ r : Int, e = .returned (.int .i64 r) ∧ (0 ≤ r ↔ l.any b = true)) ∧ Below w.heap.size w w' := by
  obtain ⟨A, c, rfl, hcap, h⟩ := h
  obtain ⟨n, hn⟩ : ∃ n, n = l.length := ⟨_, rfl⟩
  rw [← hn]
  have H := Lib.hid h; have HN := Lib.hid hn; have HLL := Lib.hid hl; have HC := Lib.hid hc
  clear h hn hcap hl hc
  go_enter Tryz.func107, Tryz.ntmps107
  go_wp2_with fail
  go_loopg [8] n (fun gk v wr => ∃ i : Nat, i ≤ n ∧ n - i ≤ gk ∧ v = .int .i64 i ∧ Hid (Below w.heap.size w wr) ∧ Hid ((l.take i).any b = false))
  case atStart => exact ⟨0, Nat.zero_le _, Nat.le_refl _, rfl, Lib.hid (Below.refl _ _), Lib.hid (by simp)⟩
  case round =>
    obtain ⟨i, hi, hgk, rfl, HB, HI⟩ := hrel
    by_cases hlt : i < n
    case neg =>
      have q : decide ((i : Int) < (n : Int)) = false := decide_eq_false (by omega)
      go_wp2_with fail
      go_ret
      refine ⟨⟨-1, rfl, ⟨fun h => absurd h (by omega), fun h => ?_⟩⟩, HB.out⟩
      have := HI.out
      rw [List.take_of_length_le (by have := HN.out; omega), h] at this
      cases this
    case pos =>
      have q : decide ((i : Int) < (n : Int)) = true := decide_eq_true (by omega)
      have hil : i < l.length := by rw [← HN.out]; exact hlt
      obtain ⟨y, hy⟩ : ∃ y, l[i]? = some y := ⟨_, List.getElem?_eq_getElem hil⟩
      obtain ⟨bk, o, rfl, hat⟩ : ∃ bk o, A = some ⟨bk, o, none⟩ ∧ intAt wr bk (o + i * 1) y := by
        rcases H.out with rfl | ⟨bk, o, e, k⟩
        · simp at hy
        · exact ⟨bk, o, e, get_b HB.out (k i y hy)⟩
      unfold intAt at hat
      rw [Nat.mul_one] at hat
      have lb := cell_lt' hat
      have hb := HLL.out
      have HCC := Lib.hid (HC.out y (List.mem_of_getElem? hy) wr HB.out)
      have HY := Lib.hid hy
      clear hy
      have hii : (i : Int) < (n : Int) := by omega
      go_wp2_with fail
      refine HCC.out.mono ?_
      rintro e w1 ⟨rfl, hb1⟩
      have HB1 := Lib.hid (HB.out.trans (hb1.mono (by have := HB.out.size; omega)))
      clear hb1
      cases hbx : b y
      case true =>
        have HYES := Lib.hid (show l.any b = true from List.any_eq_true.2 ⟨y, List.mem_of_getElem? HY.out, hbx⟩)
        clear hbx
        go_wp2_with fail
        go_ret
        exact ⟨⟨(i : Int), rfl, fun _ => HYES.out, fun _ => by omega⟩, HB1.out⟩
      case false =>
        have HI2 := Lib.hid (show (l.take (i + 1)).any b = false by
          rw [List.take_add_one, HY.out]
          simp [HI.out, hbx])
        clear hbx
        go_wp2_with fail
        cases gk with
        | zero => omega
        | succ gk =>
          go_roundg gk
          case measure => omega
          case rel => exact ⟨i + 1, by omega, by omega, by simp, HB1, HI2⟩
set_option maxHeartbeats 4000000 in
theorem con_ints (v : Value) (l : List Int) (F : Nat) (w : World) (b : Int → Bool) (h : IntsV w v l) (hl : l.length ≤ 1000000)
    (hent : ∀ a W, (callFunc F #[a]).run Tryz.prog W = .ok (.enter F #[a]) W)
    (hc : ∀ x ∈ l, ∀ W, Below w.heap.size w W → Calls Tryz.prog F #[(.int .i64 x)] W fun e W' => e = .returned (.bool (b x)) ∧ Below W.heap.size W W') :
    Calls Tryz.prog 42 #[v, .func (.func F) #[] #[]] w fun e w' => e = .returned (.bool (l.any b)) ∧ Below w.heap.size w w' := by
  have HC := Lib.hid (idx_ints v l F  w b h hl hent hc)
  clear h hl hent hc
  go_enter Tryz.func42, Tryz.ntmps42
  go_wp2_with fail
  refine HC.out.mono ?_
  rintro e w1 ⟨⟨r, rfl, hr⟩, hb⟩
  have HR := Lib.hid hr; have HB := Lib.hid hb
  clear hr hb
  have hd : l.any b = decide (0 ≤ r) := by rw [Bool.eq_iff_iff, decide_eq_true_eq]; exact HR.out.symm
  have HD := Lib.hid hd
  clear hd
  cases h0 : decide (0 ≤ r)
  all_goals go_wp2_with fail
  all_goals go_ret
  all_goals exact ⟨ret_b (by rw [HD.out, h0]), HB.out⟩

set_option maxRecDepth 100000 in
set_option maxHeartbeats 4000000 in
theorem idx_intsC (v : Value) (l : List Int) (F : Nat) (p : Value) (w : World) (b : Int → Bool) (h : IntsV w v l) (hl : l.length ≤ 1000000)
    (hent : ∀ a W, (callFunc F #[a, p]).run Tryz.prog W = .ok (.enter F #[a, p]) W)
    (hc : ∀ x ∈ l, ∀ W, Below w.heap.size w W → Calls Tryz.prog F #[(.int .i64 x), p] W fun e W' => e = .returned (.bool (b x)) ∧ Below W.heap.size W W') :
    Calls Tryz.prog 107 #[v, .func (.func F) #[] #[p]] w fun e w' => (∃ r : Int, e = .returned (.int .i64 r) ∧ (0 ≤ r ↔ l.any b = true)) ∧ Below w.heap.size w w' := by
  obtain ⟨A, c, rfl, hcap, h⟩ := h
  obtain ⟨n, hn⟩ : ∃ n, n = l.length := ⟨_, rfl⟩
  rw [← hn]
  have H := Lib.hid h; have HN := Lib.hid hn; have HLL := Lib.hid hl; have HC := Lib.hid hc
  clear h hn hcap hl hc
  go_enter Tryz.func107, Tryz.ntmps107
  go_wp2_with fail
  go_loopg [8] n (fun gk v wr => ∃ i : Nat, i ≤ n ∧ n - i ≤ gk ∧ v = .int .i64 i ∧ Hid (Below w.heap.size w wr) ∧ Hid ((l.take i).any b = false))
  case atStart => exact ⟨0, Nat.zero_le _, Nat.le_refl _, rfl, Lib.hid (Below.refl _ _), Lib.hid (by simp)⟩
  case round =>
    obtain ⟨i, hi, hgk, rfl, HB, HI⟩ := hrel
    by_cases hlt : i < n
    case neg =>
      have q : decide ((i : Int) < (n : Int)) = false := decide_eq_false (by omega)
      go_wp2_with fail
      go_ret
      refine ⟨⟨-1, rfl, ⟨fun h => absurd h (by omega), fun h => ?_⟩⟩, HB.out⟩
      have := HI.out
      rw [List.take_of_length_le (by have := HN.out; omega), h] at this
      cases this
    case pos =>
      have q : decide ((i : Int) < (n : Int)) = true := decide_eq_true (by omega)
      have hil : i < l.length := by rw [← HN.out]; exact hlt
      obtain ⟨y, hy⟩ : ∃ y, l[i]? = some y := ⟨_, List.getElem?_eq_getElem hil⟩
      obtain ⟨bk, o, rfl, hat⟩ : ∃ bk o, A = some ⟨bk, o, none⟩ ∧ intAt wr bk (o + i * 1) y := by
        rcases H.out with rfl | ⟨bk, o, e, k⟩
        · simp at hy
        · exact ⟨bk, o, e, get_b HB.out (k i y hy)⟩
      unfold intAt at hat
      rw [Nat.mul_one] at hat
      have lb := cell_lt' hat
      have hb := HLL.out
      have HCC := Lib.hid (HC.out y (List.mem_of_getElem? hy) wr HB.out)
      have HY := Lib.hid hy
      clear hy
      have hii : (i : Int) < (n : Int) := by omega
      go_wp2_with fail
      refine HCC.out.mono ?_
      rintro e w1 ⟨rfl, hb1⟩
      have HB1 := Lib.hid (HB.out.trans (hb1.mono (by have := HB.out.size; omega)))
      clear hb1
      cases hbx : b y
      case true =>
        have HYES := Lib.hid (show l.any b = true from List.any_eq_true.2 ⟨y, List.mem_of_getElem? HY.out, hbx⟩)
        clear hbx
        go_wp2_with fail
        go_ret
        exact ⟨⟨(i : Int), rfl, fun _ => HYES.out, fun _ => by omega⟩, HB1.out⟩
      case false =>
        have HI2 := Lib.hid (show (l.take (i + 1)).any b = false by
          rw [List.take_add_one, HY.out]
          simp [HI.out, hbx])
        clear hbx
        go_wp2_with fail
        cases gk with
        | zero => omega
        | succ gk =>
          go_roundg gk
          case measure => omega
          case rel => exact ⟨i + 1, by omega, by omega, by simp, HB1, HI2⟩
set_option maxHeartbeats 4000000 in
theorem con_intsC (v : Value) (l : List Int) (F : Nat) (p : Value) (w : World) (b : Int → Bool) (h : IntsV w v l) (hl : l.length ≤ 1000000)
    (hent : ∀ a W, (callFunc F #[a, p]).run Tryz.prog W = .ok (.enter F #[a, p]) W)
    (hc : ∀ x ∈ l, ∀ W, Below w.heap.size w W → Calls Tryz.prog F #[(.int .i64 x), p] W fun e W' => e = .returned (.bool (b x)) ∧ Below W.heap.size W W') :
    Calls Tryz.prog 42 #[v, .func (.func F) #[] #[p]] w fun e w' => e = .returned (.bool (l.any b)) ∧ Below w.heap.size w w' := by
  have HC := Lib.hid (idx_intsC v l F p w b h hl hent hc)
  clear h hl hent hc
  go_enter Tryz.func42, Tryz.ntmps42
  go_wp2_with fail
  refine HC.out.mono ?_
  rintro e w1 ⟨⟨r, rfl, hr⟩, hb⟩
  have HR := Lib.hid hr; have HB := Lib.hid hb
  clear hr hb
  have hd : l.any b = decide (0 ≤ r) := by rw [Bool.eq_iff_iff, decide_eq_true_eq]; exact HR.out.symm
  have HD := Lib.hid hd
  clear hd
  cases h0 : decide (0 ≤ r)
  all_goals go_wp2_with fail
  all_goals go_ret
  all_goals exact ⟨ret_b (by rw [HD.out, h0]), HB.out⟩

set_option maxRecDepth 100000 in
set_option maxHeartbeats 4000000 in
theorem idx_fns (v : Value) (l : List FnG) (F : Nat) (p : Value) (w : World) (b : FnG → Bool) (h : FnsV w v l) (hl : l.length ≤ 1000000)
    (hent : ∀ a W, (callFunc F #[a, p]).run Tryz.prog W = .ok (.enter F #[a, p]) W)
    (hc : ∀ x ∈ l, ∀ W, Below w.heap.size w W → Calls Tryz.prog F #[(fnV x), p] W fun e W' => e = .returned (.bool (b x)) ∧ Below W.heap.size W W') :
    Calls Tryz.prog 108 #[v, .func (.func F) #[] #[p]] w fun e w' => (∃ r : Int, e = .returned (.int .i64 r) ∧ (0 ≤ r ↔ l.any b = true)) ∧ Below w.heap.size w w' := by
  obtain ⟨A, c, rfl, hcap, h⟩ := h
  obtain ⟨n, hn⟩ : ∃ n, n = l.length := ⟨_, rfl⟩
  rw [← hn]
  have H := Lib.hid h; have HN := Lib.hid hn; have HLL := Lib.hid hl; have HC := Lib.hid hc
  clear h hn hcap hl hc
  go_enter Tryz.func108, Tryz.ntmps108
  go_wp2_with fail
  have e5 : (Tryz.prog.info? 67).map (fun i => (i.zero, i.size, i.bytes)) = some (some (.agg #[.string ⟨#[]⟩, .int .i64 0, .int .i64 0, .slice none 0 0]), 4, 56) := by kernel_rfl
  go_loopg [8] n (fun gk v wr => ∃ i : Nat, i ≤ n ∧ n - i ≤ gk ∧ v = .int .i64 i ∧ Hid (Below w.heap.size w wr) ∧ Hid ((l.take i).any b = false))
  case atStart => exact ⟨0, Nat.zero_le _, Nat.le_refl _, rfl, Lib.hid (Below.refl _ _), Lib.hid (by simp)⟩
  case round =>
    obtain ⟨i, hi, hgk, rfl, HB, HI⟩ := hrel
    by_cases hlt : i < n
    case neg =>
      have q : decide ((i : Int) < (n : Int)) = false := decide_eq_false (by omega)
      go_wp2_with fail
      go_ret
      refine ⟨⟨-1, rfl, ⟨fun h => absurd h (by omega), fun h => ?_⟩⟩, HB.out⟩
      have := HI.out
      rw [List.take_of_length_le (by have := HN.out; omega), h] at this
      cases this
    case pos =>
      have q : decide ((i : Int) < (n : Int)) = true := decide_eq_true (by omega)
      have hil : i < l.length := by rw [← HN.out]; exact hlt
      obtain ⟨y, hy⟩ : ∃ y, l[i]? = some y := ⟨_, List.getElem?_eq_getElem hil⟩
      obtain ⟨bk, o, rfl, hat⟩ : ∃ bk o, A = some ⟨bk, o, none⟩ ∧ fnAt wr bk (o + i * 4) y := by
        rcases H.out with rfl | ⟨bk, o, e, k⟩
        · simp at hy
        · exact ⟨bk, o, e, (k i y hy).below HB.out⟩
      obtain ⟨y0, y1, y2, y3, _, _⟩ := hat
      unfold fnV at HC
      have lb := cell_lt' y0
      have hb := HLL.out
      have HCC := Lib.hid (HC.out y (List.mem_of_getElem? hy) wr HB.out)
      have HY := Lib.hid hy
      clear hy
      have hii : (i : Int) < (n : Int) := by omega
      go_wp2_with fail
      refine HCC.out.mono ?_
      rintro e w1 ⟨rfl, hb1⟩
      have HB1 := Lib.hid (HB.out.trans (hb1.mono (by have := HB.out.size; omega)))
      clear hb1
      cases hbx : b y
      case true =>
        have HYES := Lib.hid (show l.any b = true from List.any_eq_true.2 ⟨y, List.mem_of_getElem? HY.out, hbx⟩)
        clear hbx
        go_wp2_with fail
        go_ret
        exact ⟨⟨(i : Int), rfl, fun _ => HYES.out, fun _ => by omega⟩, HB1.out⟩
      case false =>
        have HI2 := Lib.hid (show (l.take (i + 1)).any b = false by
          rw [List.take_add_one, HY.out]
          simp [HI.out, hbx])
        clear hbx
        go_wp2_with fail
        cases gk with
        | zero => omega
        | succ gk =>
          go_roundg gk
          case measure => omega
          case rel => exact ⟨i + 1, by omega, by omega, by simp, HB1, HI2⟩
set_option maxHeartbeats 4000000 in
theorem con_fns (v : Value) (l : List FnG) (F : Nat) (p : Value) (w : World) (b : FnG → Bool) (h : FnsV w v l) (hl : l.length ≤ 1000000)
    (hent : ∀ a W, (callFunc F #[a, p]).run Tryz.prog W = .ok (.enter F #[a, p]) W)
    (hc : ∀ x ∈ l, ∀ W, Below w.heap.size w W → Calls Tryz.prog F #[(fnV x), p] W fun e W' => e = .returned (.bool (b x)) ∧ Below W.heap.size W W') :
    Calls Tryz.prog 44 #[v, .func (.func F) #[] #[p]] w fun e w' => e = .returned (.bool (l.any b)) ∧ Below w.heap.size w w' := by
  have HC := Lib.hid (idx_fns v l F p w b h hl hent hc)
  clear h hl hent hc
  go_enter Tryz.func44, Tryz.ntmps44
  go_wp2_with fail
  refine HC.out.mono ?_
  rintro e w1 ⟨⟨r, rfl, hr⟩, hb⟩
  have HR := Lib.hid hr; have HB := Lib.hid hb
  clear hr hb
  have hd : l.any b = decide (0 ≤ r) := by rw [Bool.eq_iff_iff, decide_eq_true_eq]; exact HR.out.symm
  have HD := Lib.hid hd
  clear hd
  cases h0 : decide (0 ≤ r)
  all_goals go_wp2_with fail
  all_goals go_ret
  all_goals exact ⟨ret_b (by rw [HD.out, h0]), HB.out⟩

set_option maxRecDepth 100000 in
set_option maxHeartbeats 4000000 in
theorem idx_ins (v : Value) (l : List InV) (F : Nat) (p q : Value) (w : World) (b : InV → Bool) (h : InsV w v l) (hl : l.length ≤ 1000000)
    (hent : ∀ a W, (callFunc F #[a, p, q]).run Tryz.prog W = .ok (.enter F #[a, p, q]) W)
    (hc : ∀ x ∈ l, ∀ W, Below w.heap.size w W → Calls Tryz.prog F #[(insV x), p, q] W fun e W' => e = .returned (.bool (b x)) ∧ Below W.heap.size W W') :
    Calls Tryz.prog 109 #[v, .func (.func F) #[] #[p, q]] w fun e w' => (∃ r : Int, e = .returned (.int .i64 r) ∧ (0 ≤ r ↔ l.any b = true)) ∧ Below w.heap.size w w' := by
  obtain ⟨A, c, rfl, hcap, h⟩ := h
  obtain ⟨n, hn⟩ : ∃ n, n = l.length := ⟨_, rfl⟩
  rw [← hn]
  have H := Lib.hid h; have HN := Lib.hid hn; have HLL := Lib.hid hl; have HC := Lib.hid hc
  clear h hn hcap hl hc
  go_enter Tryz.func109, Tryz.ntmps109
  go_wp2_with fail
  have e5 : (Tryz.prog.info? 71).map (fun i => (i.zero, i.size, i.bytes)) = some (some (.agg #[.int .u8 0, .int .i64 0, .int .i64 0, .int .i64 0, .int .i64 0, .int .u8 0, .slice none 0 0, .int .i64 0, .int .i64 0, .int .i64 0]), 10, 96) := by kernel_rfl
  go_loopg [8] n (fun gk v wr => ∃ i : Nat, i ≤ n ∧ n - i ≤ gk ∧ v = .int .i64 i ∧ Hid (Below w.heap.size w wr) ∧ Hid ((l.take i).any b = false))
  case atStart => exact ⟨0, Nat.zero_le _, Nat.le_refl _, rfl, Lib.hid (Below.refl _ _), Lib.hid (by simp)⟩
  case round =>
    obtain ⟨i, hi, hgk, rfl, HB, HI⟩ := hrel
    by_cases hlt : i < n
    case neg =>
      have q : decide ((i : Int) < (n : Int)) = false := decide_eq_false (by omega)
      go_wp2_with fail
      go_ret
      refine ⟨⟨-1, rfl, ⟨fun h => absurd h (by omega), fun h => ?_⟩⟩, HB.out⟩
      have := HI.out
      rw [List.take_of_length_le (by have := HN.out; omega), h] at this
      cases this
    case pos =>
      have q : decide ((i : Int) < (n : Int)) = true := decide_eq_true (by omega)
      have hil : i < l.length := by rw [← HN.out]; exact hlt
      obtain ⟨y, hy⟩ : ∃ y, l[i]? = some y := ⟨_, List.getElem?_eq_getElem hil⟩
      obtain ⟨bk, o, rfl, hat⟩ : ∃ bk o, A = some ⟨bk, o, none⟩ ∧ insAt wr bk (o + i * 10) y := by
        rcases H.out with rfl | ⟨bk, o, e, k⟩
        · simp at hy
        · exact ⟨bk, o, e, (k i y hy).below HB.out⟩
      obtain ⟨y0, y1, y2, y3, y4, y5, y6, y7, y8, y9, _⟩ := hat
      unfold insV at HC
      have lb := cell_lt' y0
      have hb := HLL.out
      have HCC := Lib.hid (HC.out y (List.mem_of_getElem? hy) wr HB.out)
      have HY := Lib.hid hy
      clear hy
      have hii : (i : Int) < (n : Int) := by omega
      go_wp2_with fail
      refine HCC.out.mono ?_
      rintro e w1 ⟨rfl, hb1⟩
      have HB1 := Lib.hid (HB.out.trans (hb1.mono (by have := HB.out.size; omega)))
      clear hb1
      cases hbx : b y
      case true =>
        have HYES := Lib.hid (show l.any b = true from List.any_eq_true.2 ⟨y, List.mem_of_getElem? HY.out, hbx⟩)
        clear hbx
        go_wp2_with fail
        go_ret
        exact ⟨⟨(i : Int), rfl, fun _ => HYES.out, fun _ => by omega⟩, HB1.out⟩
      case false =>
        have HI2 := Lib.hid (show (l.take (i + 1)).any b = false by
          rw [List.take_add_one, HY.out]
          simp [HI.out, hbx])
        clear hbx
        go_wp2_with fail
        cases gk with
        | zero => omega
        | succ gk =>
          go_roundg gk
          case measure => omega
          case rel => exact ⟨i + 1, by omega, by omega, by simp, HB1, HI2⟩
set_option maxHeartbeats 4000000 in
theorem con_ins (v : Value) (l : List InV) (F : Nat) (p q : Value) (w : World) (b : InV → Bool) (h : InsV w v l) (hl : l.length ≤ 1000000)
    (hent : ∀ a W, (callFunc F #[a, p, q]).run Tryz.prog W = .ok (.enter F #[a, p, q]) W)
    (hc : ∀ x ∈ l, ∀ W, Below w.heap.size w W → Calls Tryz.prog F #[(insV x), p, q] W fun e W' => e = .returned (.bool (b x)) ∧ Below W.heap.size W W') :
    Calls Tryz.prog 46 #[v, .func (.func F) #[] #[p, q]] w fun e w' => e = .returned (.bool (l.any b)) ∧ Below w.heap.size w w' := by
  have HC := Lib.hid (idx_ins v l F p q w b h hl hent hc)
  clear h hl hent hc
  go_enter Tryz.func46, Tryz.ntmps46
  go_wp2_with fail
  refine HC.out.mono ?_
  rintro e w1 ⟨⟨r, rfl, hr⟩, hb⟩
  have HR := Lib.hid hr; have HB := Lib.hid hb
  clear hr hb
  have hd : l.any b = decide (0 ≤ r) := by rw [Bool.eq_iff_iff, decide_eq_true_eq]; exact HR.out.symm
  have HD := Lib.hid hd
  clear hd
  cases h0 : decide (0 ≤ r)
  all_goals go_wp2_with fail
  all_goals go_ret
  all_goals exact ⟨ret_b (by rw [HD.out, h0]), HB.out⟩
end Go.Proofs.YtgdibfnpkcdiiaaGreatDoor
