/- The walks over the reader of the package parse: its memory; now, is, fail, pass, take, name, node. By an AI agent. -/
import Derived.Test.YtkkeocnnecegbaaGreatDoorWalkG
import Derived.Test.YtkkeocnnecegbaaGreatDoorJA
import Derived.WalkLawsBesides
namespace Go.Proofs.YtkkeocnnecegbaaGreatDoor
open Go.RowKit

/-- Of what was below B, block R alone may have changed. -/
structure KeepR (B R : Nat) (w w' : World) : Prop where
  os : w'.os = w.os
  tape : w'.tape = w.tape
  output : w'.output = w.output
  size : w.heap.size ≤ w'.heap.size
  block : ∀ k, k < B → k ≠ R → w'.heap[k]? = w.heap[k]?
theorem KeepR.refl (B R : Nat) (w : World) : KeepR B R w w := ⟨rfl, rfl, rfl, Nat.le_refl _, fun _ _ _ => rfl⟩
theorem KeepR.trans {B C R : Nat} {a b c : World} (h : KeepR B R a b) (k : KeepR C R b c) (hB : B ≤ C) : KeepR B R a c :=
  ⟨k.os.trans h.os, k.tape.trans h.tape, k.output.trans h.output, Nat.le_trans h.size k.size, fun i hi hr => (k.block i (by omega) hr).trans (h.block i hi hr)⟩
theorem KeepR.of {B R : Nat} {a b : World} (h : Below B a b) : KeepR B R a b := ⟨h.os, h.tape, h.output, h.size, fun k hk _ => h.block k hk⟩
theorem KeepR.below {B C R : Nat} {a b c : World} (h : KeepR B R a b) (k : Below C b c) (hB : B ≤ C) : KeepR B R a c := h.trans (.of k) hB
theorem KeepR.mono {B C R : Nat} {a b : World} (h : KeepR B R a b) (hC : C ≤ B) : KeepR C R a b := ⟨h.os, h.tape, h.output, h.size, fun k hk hr => h.block k (by omega) hr⟩
theorem KeepR.setCell {B R : Nat} {a w : World} (h : KeepR B R a w) {p : Addr} (hp : p.block = R ∨ B ≤ p.block) (u : Value) : KeepR B R a (w.setCell p u) :=
  h.trans ⟨rfl, rfl, rfl, by simp [World.setCell], fun k hk hr => Below.heap_setCell _ _ _ _ (by omega)⟩ (Nat.le_refl _)
theorem KeepR.alloc {B R : Nat} {a w : World} (h : KeepR B R a w) (hB : B ≤ w.heap.size) (o : Obj) : KeepR B R a (w.alloc o) := h.below ((Below.refl B w).alloc hB o) (Nat.le_refl _)

theorem cellsAt.of {w w' : World} {b o : Nat} {t : Tok} (h : cellsAt w b o t) (hb : w'.heap[b]? = w.heap[b]?) : cellsAt w' b o t := by
  have e : ∀ k, w'.cell? ⟨b, k, none⟩ = w.cell? ⟨b, k, none⟩ := fun k => World.cell?_of_block (w := w) hb
  exact ⟨(e _).trans h.1, (e _).trans h.2.1, (e _).trans h.2.2.1, (e _).trans h.2.2.2⟩

/-- The reader at R: what it has yet to read, and how deep it is. -/
structure RD (w : World) (R : Nat) (ts : List Tok) (d : Nat) : Prop where
  ex : ∃ g o c, 3 < g ∧ g < R ∧ ts.length ≤ c ∧ Blk w R 92 #[.slice (some ⟨g, o, none⟩) ts.length c, .int .i64 d] ∧ ∀ i t, ts[i]? = some t → cellsAt w g (o + i * 4) t
  fin : EndL ts
  max : ∃ m, w.cell? ⟨3, 0, none⟩ = some (.int .i64 m)
theorem RD.lt {w : World} {R : Nat} {ts : List Tok} {d : Nat} (h : RD w R ts d) : R < w.heap.size ∧ 3 < R := by
  obtain ⟨g, o, c, h1, h2, h3, h4, h5⟩ := h.ex
  exact ⟨h4.lt, by omega⟩
theorem RD.same {w w' : World} {R : Nat} {ts : List Tok} {d : Nat} (h : RD w R ts d) (hs : ∀ k, k ≤ R → w'.heap[k]? = w.heap[k]?) : RD w' R ts d := by
  obtain ⟨⟨g, o, c, h1, h2, h3, h4, h5⟩, hf, m, hm⟩ := h
  exact ⟨⟨g, o, c, h1, h2, h3, (hs R (Nat.le_refl _)).trans h4, fun i t hi => (h5 i t hi).of (hs g (by omega))⟩, hf, m, (World.cell?_of_block (w := w) (hs 3 (by omega))).trans hm⟩
theorem RD.below {w w' : World} {R : Nat} {ts : List Tok} {d B : Nat} (h : RD w R ts d) (hb : Below B w w') (hB : R < B) : RD w' R ts d := h.same (fun k hk => hb.block k (by omega))
theorem RD.set {w : World} {R : Nat} {ts : List Tok} {d : Nat} (h : RD w R ts d) {p : Addr} (hp : R < p.block) (u : Value) : RD (w.setCell p u) R ts d := h.same (fun k hk => Below.heap_setCell _ _ _ _ (by omega))
theorem RD.alloc {w : World} {R : Nat} {ts : List Tok} {d : Nat} (h : RD w R ts d) (o : Obj) : RD (w.alloc o) R ts d := h.below ((Below.refl w.heap.size w).alloc (Nat.le_refl _) o) h.lt.1

def tokA (t : Tok) : Value := .agg #[.int .u8 t.kind, .string ⟨t.text.toArray⟩, .int .i64 t.n, .int .i64 t.at']
def faultV (p : Nat) (er : Int) : Value := .iface 89 (.agg #[.int .i64 p, .int .i64 er])

set_option maxHeartbeats 1000000 in
theorem now_any (R : Nat) (t : Tok) (r : List Tok) (d : Nat) (w : World) (h : RD w R (t :: r) d) :
    Calls Tryz.prog 51 #[.pointer (some ⟨R, 0, none⟩)] w fun e w' => e = .returned (tokA t) ∧ Below w.heap.size w w' := by
  obtain ⟨⟨g, o, c, h1, h2, h3, h4, h5⟩, hf, m, hm⟩ := h
  obtain ⟨t0, t1, t2, t3⟩ := h5 0 t rfl
  simp only [Nat.zero_mul, Nat.add_zero] at t0 t1 t2 t3
  have hl : (0 : Int) < ((t :: r).length : Int) := by simp
  have hl' : 0 < (t :: r).length := by simp
  unfold tokA
  generalize (t :: r).length = n at *
  have r0 : w.cell? ⟨R, 0, none⟩ = some (.slice (some ⟨g, o, none⟩) n c) := h4.cell 0
  have hR := h4.lt
  have hg := cell_lt' t0
  clear h5 h4 hm hf
  go_enter Tryz.func51, Tryz.ntmps51
  go_wp2_with fail
  exact bodyPost_ret (v := .agg #[.int .u8 t.kind, .string ⟨t.text.toArray⟩, .int .i64 t.n, .int .i64 t.at']) (by simp [results, Tryz.results51, go_sem]) rfl ⟨rfl, (Below.refl _ _).alloc (Nat.le_refl _) _⟩

theorem fld0 (a b c d : Value) (w : World) : (Instr.field 51 (.agg #[a, b, c, d]) 0).run Tryz.prog w = .ok a w := by kernel_rfl
theorem fld1 (a b c d : Value) (w : World) : (Instr.field 51 (.agg #[a, b, c, d]) 1).run Tryz.prog w = .ok b w := by kernel_rfl
theorem fld2 (a b c d : Value) (w : World) : (Instr.field 51 (.agg #[a, b, c, d]) 2).run Tryz.prog w = .ok c w := by kernel_rfl
theorem fld3 (a b c d : Value) (w : World) : (Instr.field 51 (.agg #[a, b, c, d]) 3).run Tryz.prog w = .ok d w := by kernel_rfl

set_option maxHeartbeats 1000000 in
theorem fail_any (R : Nat) (t : Tok) (r : List Tok) (d : Nat) (er : Int) (w : World) (h : RD w R (t :: r) d) :
    Calls Tryz.prog 143 #[.pointer (some ⟨R, 0, none⟩), .int .i64 er] w fun e w' => e = .panicked [{ v := faultV t.at' er, recovered := false }] ∧ Below w.heap.size w w' := by
  have H := Lib.hid h; clear h
  have f3 := fld3
  go_enter Tryz.func143, Tryz.ntmps143
  go_wp2_with (go_at_call 51; refine (now_any R t r d _ H.out).mono ?_; rintro e w1 ⟨rfl, hb⟩; unfold tokA)
  exact ⟨rfl, rfl, hb⟩

theorem isT_cons (x : List UInt8) (t : Tok) (r : List Tok) : isT x (t :: r) = ((t.kind == 2 || t.kind == 4) && t.text == x) := rfl
theorem ret_b {a b : Bool} (h : a = b) : Ending.returned (.bool a) = .returned (.bool b) := by rw [h]
set_option maxHeartbeats 1000000 in
theorem is_any (R : Nat) (t : Tok) (r : List Tok) (d : Nat) (x : List UInt8) (w : World) (h : RD w R (t :: r) d) :
    Calls Tryz.prog 52 #[.pointer (some ⟨R, 0, none⟩), .string ⟨x.toArray⟩] w fun e w' => e = .returned (.bool (isT x (t :: r))) ∧ Below w.heap.size w w' := by
  have H := Lib.hid h; clear h
  go_enter Tryz.func52, Tryz.ntmps52
  go_wp2_with (go_at_call 51; refine (now_any R t r d _ H.out).mono ?_; rintro e w1 ⟨rfl, hb⟩; unfold tokA)
  · have hk : (t.kind : Int) = 2 := by assumption
    go_ret
    exact ⟨ret_b (by rw [isT_cons, show t.kind = 2 by omega]; simp), hb.alloc hb.size _⟩
  · have hk : (t.kind : Int) = 4 := by assumption
    go_ret
    exact ⟨ret_b (by rw [isT_cons, show t.kind = 4 by omega]; simp), hb.alloc hb.size _⟩
  · have hk : ¬ (t.kind : Int) = 4 := by assumption
    have hk2 : ¬ (t.kind : Int) = 2 := by assumption
    go_ret
    refine ⟨ret_b ?_, hb.alloc hb.size _⟩
    rw [isT_cons, show (t.kind == 2) = false by simp; omega, show (t.kind == 4) = false by simp; omega]; rfl

set_option maxHeartbeats 1000000 in
theorem pass_no (R : Nat) (t : Tok) (r : List Tok) (d : Nat) (w : World) (h : RD w R (t :: r) d) :
    Calls Tryz.prog 92 #[.pointer (some ⟨R, 0, none⟩), .bool false] w fun e w' => e = .panicked [{ v := faultV t.at' 140, recovered := false }] ∧ Below w.heap.size w w' := by
  have H := Lib.hid h; clear h
  go_enter Tryz.func92, Tryz.ntmps92
  go_wp2_with (go_at_call 143; refine (fail_any R t r d 140 _ (H.out.alloc _)).mono ?_; rintro e w1 ⟨rfl, hb⟩)
  exact ⟨rfl, rfl, ((Below.refl _ _).alloc (Nat.le_refl _) _).trans (hb.mono (by simp))⟩

set_option maxHeartbeats 2000000 in
theorem pass_yes (R : Nat) (t : Tok) (r : List Tok) (d : Nat) (w : World) (h : RD w R (t :: r) d) (hk : t.kind ≠ 5) :
    Calls Tryz.prog 92 #[.pointer (some ⟨R, 0, none⟩), .bool true] w fun e w' => e = .returned (tokA t) ∧ RD w' R r d ∧ KeepR w.heap.size R w w' := by
  have H := Lib.hid h; clear h
  go_enter Tryz.func92, Tryz.ntmps92
  go_wp2_with fail
  refine (now_any R t r d _ (H.out.alloc _)).mono ?_; rintro e w1 ⟨rfl, hb⟩
  have hb1 : Below w.heap.size w w1 := ((Below.refl _ _).alloc (Nat.le_refl _) _).trans (hb.mono (by simp))
  have HR := H.out.below hb1 H.out.lt.1
  have hQ : Blk w1 w.heap.size 51 #[.int .u8 0, .string ⟨#[]⟩, .int .i64 0, .int .i64 0] := (Blk.new w 51 _).below hb
  have hRw := H.out.lt.1
  obtain ⟨⟨g, o, c, h1, h2, h3, h4, h5⟩, hf, m, hm⟩ := HR
  have hr : r ≠ [] := by
    intro e; rw [e] at hf; cases hf with
    | one _ h => exact hk h
    | more _ _ _ h => cases h
  have hfr : EndL r := by
    cases hf with
    | one _ h => exact absurd h hk
    | more _ _ _ h => exact h
  have hl2 : r.length + 1 = (t :: r).length := rfl
  have hl1 : 1 ≤ r.length := List.length_pos_iff.2 hr
  unfold tokA
  generalize (t :: r).length = n at *
  have r0 : w1.cell? ⟨R, 0, none⟩ = some (.slice (some ⟨g, o, none⟩) n c) := h4.cell 0
  have rf : w1.frozen? ⟨R, 0, none⟩ = false := h4.free 0
  have hR := h4.lt
  have hg : g < w1.heap.size := by omega
  have q0 : w1.cell? ⟨w.heap.size, 0, none⟩ = some (.int .u8 0) := hQ.cell 0
  have q1 : w1.cell? ⟨w.heap.size, 1, none⟩ = some (.string ⟨#[]⟩) := hQ.cell 1
  have q2 : w1.cell? ⟨w.heap.size, 2, none⟩ = some (.int .i64 0) := hQ.cell 2
  have q3 : w1.cell? ⟨w.heap.size, 3, none⟩ = some (.int .i64 0) := hQ.cell 3
  have e0 := hQ.free 0
  have e1 := hQ.free 1
  have e2 := hQ.free 2
  have e3 := hQ.free 3
  have hqR : ¬ w.heap.size = R := by omega
  have hq1 := hQ.lt
  have HB := Lib.hid hb1
  have H4 := Lib.hid h4; have H5 := Lib.hid h5; have HM := Lib.hid hm
  clear h4 hm hb hb1 hQ h5
  have hn1 : (1 : Int) ≤ (n : Int) := by omega
  have hc1 : ¬ (1 : Int) = (c : Int) := by omega
  have hc2 : ¬ c = 1 := by omega
  go_wp2_with fail
  refine bodyPost_ret (v := .agg #[.int .u8 t.kind, .string ⟨t.text.toArray⟩, .int .i64 t.n, .int .i64 t.at']) ?_ rfl ⟨rfl, ?_, ?_⟩
  · simp [results, Tryz.results92, go_sem, q0, q1, q2, q3, hq1]
  · have far : ∀ k, k ≠ R → k ≠ w.heap.size → (((((w1.setCell ⟨R, 0, none⟩ (.slice (some ⟨g, o + 4, none⟩) (n - 1) (c - 1))).setCell ⟨w.heap.size, 0, none⟩ (.int .u8 t.kind)).setCell ⟨w.heap.size, 1, none⟩ (.string ⟨t.text.toArray⟩)).setCell ⟨w.heap.size, 2, none⟩ (.int .i64 t.n)).setCell ⟨w.heap.size, 3, none⟩ (.int .i64 t.at')).heap[k]? = w1.heap[k]? := fun k a b =>
      (Below.heap_setCell _ ⟨w.heap.size, 3, none⟩ _ k b).trans ((Below.heap_setCell _ ⟨w.heap.size, 2, none⟩ _ k b).trans ((Below.heap_setCell _ ⟨w.heap.size, 1, none⟩ _ k b).trans ((Below.heap_setCell _ ⟨w.heap.size, 0, none⟩ _ k b).trans (Below.heap_setCell _ ⟨R, 0, none⟩ _ k a))))
    have a := (((((H4.out.put 0 (.slice (some ⟨g, o + 4, none⟩) (n - 1) (c - 1))).far (Ne.symm hqR) 0 (.int .u8 t.kind)).far (Ne.symm hqR) 1 (.string ⟨t.text.toArray⟩)).far (Ne.symm hqR) 2 (.int .i64 t.n)).far (Ne.symm hqR) 3 (.int .i64 t.at'))
    generalize (((((w1.setCell ⟨R, 0, none⟩ (.slice (some ⟨g, o + 4, none⟩) (n - 1) (c - 1))).setCell ⟨w.heap.size, 0, none⟩ (.int .u8 t.kind)).setCell ⟨w.heap.size, 1, none⟩ (.string ⟨t.text.toArray⟩)).setCell ⟨w.heap.size, 2, none⟩ (.int .i64 t.n)).setCell ⟨w.heap.size, 3, none⟩ (.int .i64 t.at')) = W at far a ⊢
    refine RD.alloc ⟨⟨g, o + 4, c - 1, h1, h2, by omega, ?_, ?_⟩, hfr, m, ?_⟩ _
    · have e : n - 1 = r.length := by omega
      rw [e] at a
      exact a
    · intro i u hi
      have := H5.out (i + 1) u (by simpa using hi)
      rw [show o + (i + 1) * 4 = o + 4 + i * 4 by omega] at this
      exact this.of (far g (by omega) (by omega))
    · exact (World.cell?_of_block (w := w1) (far 3 (by omega) (by omega))).trans HM.out
  · exact ((((((KeepR.of HB.out).setCell (p := ⟨R, 0, none⟩) (Or.inl rfl) _).setCell (p := ⟨w.heap.size, 0, none⟩) (Or.inr (Nat.le_refl _)) _).setCell (p := ⟨w.heap.size, 1, none⟩) (Or.inr (Nat.le_refl _)) _).setCell (p := ⟨w.heap.size, 2, none⟩) (Or.inr (Nat.le_refl _)) _).setCell (p := ⟨w.heap.size, 3, none⟩) (Or.inr (Nat.le_refl _)) _).alloc (by have := HB.out.size; simpa using this) _

/-- How a part of the reader ends: with a result, having passed so much; or with an error. -/
def Out {α : Type} (w : World) (R d : Nat) (res : Except PErr (α × List Tok)) (Post : α → Value → World → Prop) (e : Ending) (w' : World) : Prop :=
  KeepR w.heap.size R w w' ∧ match res with
  | .error (p, er) => e = .panicked [{ v := faultV p er, recovered := false }]
  | .ok (x, ts) => RD w' R ts d ∧ ∃ v, e = .returned v ∧ Post x v w'
theorem Out.err {α : Type} {w : World} {R d : Nat} {res : Except PErr (α × List Tok)} {Post : α → Value → World → Prop} {w' : World} {p : Nat} {er : Int} (h : res = .error (p, er)) (hk : KeepR w.heap.size R w w') : Out w R d res Post (.panicked [{ v := faultV p er, recovered := false }]) w' := by
  subst h; exact ⟨hk, rfl⟩
theorem Out.ok {α : Type} {w : World} {R d : Nat} {res : Except PErr (α × List Tok)} {Post : α → Value → World → Prop} {w' : World} {x : α} {ts : List Tok} {v : Value} (h : res = .ok (x, ts)) (hk : KeepR w.heap.size R w w') (hr : RD w' R ts d) (hp : Post x v w') : Out w R d res Post (.returned v) w' := by
  subst h; exact ⟨hk, hr, v, rfl, hp⟩
def unitR (a : Except PErr (List Tok)) : Except PErr (Unit × List Tok) :=
  match a with
  | .error e => .error e
  | .ok r => .ok ((), r)

theorem take_no {R : Nat} {t : Tok} {r : List Tok} {d : Nat} {x : List UInt8} {w : World} (h : RD w R (t :: r) d) (hi : isT x (t :: r) = false) :
    Calls Tryz.prog 90 #[.pointer (some ⟨R, 0, none⟩), .string ⟨x.toArray⟩] w fun e w' => e = .panicked [{ v := faultV t.at' 140, recovered := false }] ∧ Below w.heap.size w w' := by
  have H := Lib.hid h; clear h
  have HI := Lib.hid hi; clear hi
  go_enter Tryz.func90, Tryz.ntmps90
  go_wp2_with fail
  refine (is_any R t r d x _ H.out).mono ?_; rintro e w1 ⟨rfl, hb⟩; rw [HI.out]
  have HR := Lib.hid (H.out.below hb H.out.lt.1)
  go_wp2_with fail
  refine (pass_no R t r d _ HR.out).mono ?_; rintro e w2 ⟨rfl, hb2⟩
  go_wp2_with fail
  exact ⟨rfl, rfl, hb.trans (hb2.mono hb.size)⟩
theorem take_yes {R : Nat} {t : Tok} {r : List Tok} {d : Nat} {x : List UInt8} {w : World} (h : RD w R (t :: r) d) (hi : isT x (t :: r) = true) :
    Calls Tryz.prog 90 #[.pointer (some ⟨R, 0, none⟩), .string ⟨x.toArray⟩] w fun e w' => e = .returned (.tuple #[]) ∧ RD w' R r d ∧ KeepR w.heap.size R w w' := by
  have H := Lib.hid h; clear h
  have HI := Lib.hid hi; clear hi
  go_enter Tryz.func90, Tryz.ntmps90
  go_wp2_with fail
  refine (is_any R t r d x _ H.out).mono ?_; rintro e w1 ⟨rfl, hb⟩; rw [HI.out]
  have HR := Lib.hid (H.out.below hb H.out.lt.1)
  go_wp2_with fail
  refine (pass_yes R t r d _ HR.out (isT_kind HI.out)).mono ?_; rintro e w2 ⟨rfl, hr, hk⟩
  go_wp2_with fail
  go_end0
  exact ⟨rfl, hr, (KeepR.of hb).trans hk hb.size⟩
theorem name_no {R : Nat} {t : Tok} {r : List Tok} {d : Nat} {w : World} (h : RD w R (t :: r) d) (hi : t.kind ≠ 1) :
    Calls Tryz.prog 91 #[.pointer (some ⟨R, 0, none⟩)] w fun e w' => e = .panicked [{ v := faultV t.at' 140, recovered := false }] ∧ Below w.heap.size w w' := by
  have H := Lib.hid h; clear h
  have f0 := fld0
  have f1 := fld1
  have hk : ((t.kind : Int) == 1) = false := by simp; omega
  go_enter Tryz.func91, Tryz.ntmps91
  go_wp2_with fail
  refine (now_any R t r d _ H.out).mono ?_; rintro e w1 ⟨rfl, hb⟩; unfold tokA
  have HR := Lib.hid (H.out.below hb H.out.lt.1)
  go_wp2_with fail
  refine (pass_no R t r d _ HR.out).mono ?_; rintro e w2 ⟨rfl, hb2⟩
  go_wp2_with fail
  exact ⟨rfl, rfl, hb.trans (hb2.mono hb.size)⟩
theorem name_yes {R : Nat} {t : Tok} {r : List Tok} {d : Nat} {w : World} (h : RD w R (t :: r) d) (hi : t.kind = 1) :
    Calls Tryz.prog 91 #[.pointer (some ⟨R, 0, none⟩)] w fun e w' => e = .returned (.string ⟨t.text.toArray⟩) ∧ RD w' R r d ∧ KeepR w.heap.size R w w' := by
  have H := Lib.hid h; clear h
  have f0 := fld0
  have f1 := fld1
  have hk : ((t.kind : Int) == 1) = true := by simp [hi]
  have HI := Lib.hid hi; clear hi
  go_enter Tryz.func91, Tryz.ntmps91
  go_wp2_with fail
  refine (now_any R t r d _ H.out).mono ?_; rintro e w1 ⟨rfl, hb⟩; unfold tokA
  have HR := Lib.hid (H.out.below hb H.out.lt.1)
  go_wp2_with fail
  refine (pass_yes R t r d _ HR.out (by have := HI.out; omega)).mono ?_; rintro e w2 ⟨rfl, hr, hk⟩; unfold tokA
  go_wp2_with fail
  go_ret
  exact ⟨rfl, hr, (KeepR.of hb).trans hk hb.size⟩
theorem EndL.cons {ts : List Tok} (h : EndL ts) : ∃ t r, ts = t :: r := by
  cases h with
  | one t _ => exact ⟨t, [], rfl⟩
  | more t r _ _ => exact ⟨t, r, rfl⟩
/-- take. -/
theorem take_any (R d : Nat) (x : List UInt8) (ts : List Tok) (w : World) (h : RD w R ts d) :
    Calls Tryz.prog 90 #[.pointer (some ⟨R, 0, none⟩), .string ⟨x.toArray⟩] w (Out w R d (unitR (takeT x ts)) fun _ v _ => v = .tuple #[]) := by
  obtain ⟨t, r, rfl⟩ := h.fin.cons
  cases hi : isT x (t :: r)
  · refine (take_no h hi).mono ?_
    rintro e w' ⟨rfl, hb⟩
    exact Out.err (by unfold takeT; rw [hi]; rfl) (.of hb)
  · refine (take_yes h hi).mono ?_
    rintro e w' ⟨rfl, hr, hk⟩
    exact Out.ok (x := ()) (by unfold takeT; rw [hi]; rfl) hk hr rfl
/-- name. -/
theorem name_any (R d : Nat) (ts : List Tok) (w : World) (h : RD w R ts d) :
    Calls Tryz.prog 91 #[.pointer (some ⟨R, 0, none⟩)] w (Out w R d (nameT ts) fun t v _ => v = .string ⟨t.toArray⟩) := by
  obtain ⟨t, r, rfl⟩ := h.fin.cons
  by_cases hi : t.kind = 1
  · refine (name_yes h hi).mono ?_
    rintro e w' ⟨rfl, hr, hk⟩
    exact Out.ok (by unfold nameT; rw [show nowKind (t :: r) = 1 from hi]; rfl) hk hr rfl
  · refine (name_no h hi).mono ?_
    rintro e w' ⟨rfl, hb⟩
    exact Out.err (by unfold nameT; rw [if_neg (show ¬ nowKind (t :: r) = 1 from hi)]; rfl) (.of hb)

set_option maxHeartbeats 1000000 in
/-- node. -/
theorem node_any (R d k : Nat) (ts : List Tok) (w : World) (h : RD w R ts d) :
    Calls Tryz.prog 50 #[.pointer (some ⟨R, 0, none⟩), .int .u8 k] w fun e w' => ∃ X, e = .returned (.pointer (some ⟨X, 0, none⟩)) ∧ w.heap.size ≤ X ∧ Blk w' X 160 #[.int .u8 k, .string ⟨#[]⟩, .int .i64 0, .int .i64 (nowAt ts), .slice none 0 0, .slice none 0 0] ∧ Below w.heap.size w w' := by
  obtain ⟨t, r, rfl⟩ := h.fin.cons
  have H := Lib.hid h; clear h
  have f3 := fld3
  have hn : nowAt (t :: r) = t.at' := rfl
  rw [hn]; clear hn
  go_enter Tryz.func50, Tryz.ntmps50
  go_wp2_with (go_at_call 51; refine (now_any R t r d _ H.out).mono ?_; rintro e w1 ⟨rfl, hb⟩; unfold tokA)
  go_ret
  exact ⟨_, rfl, hb.size, Blk.new _ _ _, hb.alloc hb.size _⟩
end Go.Proofs.YtkkeocnnecegbaaGreatDoor
