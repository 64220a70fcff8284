/- The walk over within. By an AI agent. -/
import Derived.Test.YtkkeocnnecegbaaGreatDoorPwC
namespace Go.Proofs.YtkkeocnnecegbaaGreatDoor
open Go.RowKit

/-- As Out, but of the blocks from B on nothing is said. -/
def OutB {α : Type} (B : Nat) (w : World) (R d : Nat) (res : Except PErr (α × List Tok)) (Post : α → Value → World → Prop) (e : Ending) (w' : World) : Prop :=
  KeepR B R w w' ∧ match res with
  | .error (p, er) => e = .panicked [{ v := faultV p er, recovered := false }]
  | .ok (x, ts) => RD w' R ts d ∧ ∃ v, e = .returned v ∧ Post x v w'
theorem OutB.err {α : Type} {B : Nat} {w : World} {R d : Nat} {res : Except PErr (α × List Tok)} {Post : α → Value → World → Prop} {w' : World} {p : Nat} {er : Int} (h : res = .error (p, er)) (hk : KeepR B R w w') : OutB B w R d res Post (.panicked [{ v := faultV p er, recovered := false }]) w' := by
  subst h; exact ⟨hk, rfl⟩
theorem OutB.ok {α : Type} {B : Nat} {w : World} {R d : Nat} {res : Except PErr (α × List Tok)} {Post : α → Value → World → Prop} {w' : World} {x : α} {ts : List Tok} {v : Value} (h : res = .ok (x, ts)) (hk : KeepR B R w w') (hr : RD w' R ts d) (hp : Post x v w') : OutB B w R d res Post (.returned v) w' := by
  subst h; exact ⟨hk, hr, v, rfl, hp⟩
theorem RD.deep {w : World} {R : Nat} {ts : List Tok} {d : Nat} (h : RD w R ts d) : w.cell? ⟨R, 1, none⟩ = some (.int .i64 d) ∧ w.frozen? ⟨R, 1, none⟩ = false := by
  obtain ⟨g, o, c, h1, h2, h3, h4, h5⟩ := h.ex
  exact ⟨h4.cell 1, h4.free 1⟩
theorem RD.setDeep {w : World} {R : Nat} {ts : List Tok} {d : Nat} (h : RD w R ts d) (d' : Nat) : RD (w.setCell ⟨R, 1, none⟩ (.int .i64 d')) R ts d' := by
  obtain ⟨⟨g, o, c, h1, h2, h3, h4, h5⟩, hf, m, hm⟩ := h
  have far : ∀ k, k ≠ R → (w.setCell ⟨R, 1, none⟩ (.int .i64 d')).heap[k]? = w.heap[k]? := fun k hk => Below.heap_setCell _ _ _ _ hk
  exact ⟨⟨g, o, c, h1, h2, h3, h4.put 1 (.int .i64 d'), fun i t hi => (h5 i t hi).of (far g (by omega))⟩, hf, m, (World.cell?_of_block (w := w) (far 3 (by omega))).trans hm⟩

/-- What within reads: M between two marks; no second one, if it is empty. -/
def withinR {α : Type} (x y : List UInt8) (d : Nat) (M : List Tok → Except PErr (α × List Tok)) (ts : List Tok) : Except PErr (α × List Tok) :=
  match openT x d ts with
  | .error e => .error e
  | .ok ts1 => match M ts1 with
    | .error e => .error e
    | .ok (a, ts2) => if y = [] then .ok (a, ts2) else match takeT y ts2 with
      | .error e => .error e
      | .ok ts3 => .ok (a, ts3)

set_option maxRecDepth 100000 in
set_option maxHeartbeats 4000000 in
theorem within_deep {α : Type} (B R d F : Nat) (x y : List UInt8) (cap : Array Value) (ts : List Tok) (w : World) (M : List Tok → Except PErr (α × List Tok)) (P : α → Value → World → Prop) (h : RD w R ts d) (hi : isT x ts = true) (hd : 64 ≤ d) (hB : B ≤ w.heap.size) :
    Calls Tryz.prog 144 #[.pointer (some ⟨R, 0, none⟩), .string ⟨x.toArray⟩, .string ⟨y.toArray⟩, .func (.func F) #[] cap] w (OutB B w R d (withinR x y d M ts) P) := by
  obtain ⟨t, r, rfl⟩ := h.fin.cons
  have H := Lib.hid h; have HI := Lib.hid hi
  clear h hi
  go_enter Tryz.func144, Tryz.ntmps144
  go_wp2_with fail
  refine (is_any R t r d x _ H.out).mono ?_; rintro e w1 ⟨rfl, hb⟩; rw [HI.out]
  have HR := Lib.hid (H.out.below hb H.out.lt.1)
  obtain ⟨hc, hf⟩ := HR.out.deep
  have hd' : (64 : Int) ≤ (d : Int) := by omega
  go_wp2_with fail
  refine (fail_any R t r d 141 _ HR.out).mono ?_; rintro e w2 ⟨rfl, hb2⟩
  go_wp2_with fail
  refine ⟨rfl, OutB.err ?_ (.of ((hb.trans (hb2.mono hb.size)).mono hB))⟩
  unfold withinR openT
  rw [if_pos (by rw [HI.out]; simpa using hd)]
  rfl

set_option maxRecDepth 100000 in
set_option maxHeartbeats 4000000 in
theorem within_no {α : Type} (B R d F : Nat) (x y : List UInt8) (cap : Array Value) (ts : List Tok) (w : World) (M : List Tok → Except PErr (α × List Tok)) (P : α → Value → World → Prop) (h : RD w R ts d) (hi : isT x ts = false) (hB : B ≤ w.heap.size) :
    Calls Tryz.prog 144 #[.pointer (some ⟨R, 0, none⟩), .string ⟨x.toArray⟩, .string ⟨y.toArray⟩, .func (.func F) #[] cap] w (OutB B w R d (withinR x y d M ts) P) := by
  obtain ⟨t, r, rfl⟩ := h.fin.cons
  have H := Lib.hid h; have HI := Lib.hid hi
  clear h hi
  go_enter Tryz.func144, Tryz.ntmps144
  go_wp2_with fail
  refine (is_any R t r d x _ H.out).mono ?_; rintro e w1 ⟨rfl, hb⟩; rw [HI.out]
  have HR := Lib.hid (H.out.below hb H.out.lt.1)
  go_wp2_with fail
  refine (take_no HR.out HI.out).mono ?_; rintro e w2 ⟨rfl, hb2⟩
  go_wp2_with fail
  refine ⟨rfl, OutB.err ?_ (.of ((hb.trans (hb2.mono hb.size)).mono hB))⟩
  unfold withinR openT takeT
  rw [HI.out]
  rfl

set_option maxRecDepth 100000 in
set_option maxHeartbeats 8000000 in
theorem within_yes {α : Type} (B R d F : Nat) (x y : List UInt8) (cap : Array Value) (t : Tok) (r : List Tok) (w : World) (M : List Tok → Except PErr (α × List Tok)) (P : α → Value → World → Prop) (h : RD w R (t :: r) d) (hi : isT x (t :: r) = true) (hd : d < 64) (hB : B ≤ w.heap.size) (hE : ∀ W, (callFunc F cap).run Tryz.prog W = .ok (.enter F cap) W)
    (hF : ∀ w1, RD w1 R r (d + 1) → KeepR w.heap.size R w w1 → Calls Tryz.prog F cap w1 (OutB B w1 R (d + 1) (M r) fun a v w' => v = .tuple #[] ∧ P a v w'))
    (hP : ∀ a w1 w2, P a (.tuple #[]) w1 → KeepR w1.heap.size R w1 w2 → P a (.tuple #[]) w2) :
    Calls Tryz.prog 144 #[.pointer (some ⟨R, 0, none⟩), .string ⟨x.toArray⟩, .string ⟨y.toArray⟩, .func (.func F) #[] cap] w (OutB B w R d (withinR x y d M (t :: r)) P) := by
  have hop : openT x d (t :: r) = .ok r := by
    unfold openT takeT
    rw [hi, if_neg (by simp; omega), if_pos rfl]; rfl
  have HOP := Lib.hid hop
  have H := Lib.hid h; have HI := Lib.hid hi
  have HF := Lib.hid hF; have HP := Lib.hid hP
  clear h hi hF hP hop
  have hBB := hB
  go_enter Tryz.func144, Tryz.ntmps144
  go_wp2_with fail
  refine (is_any R t r d x _ H.out).mono ?_; rintro e w1 ⟨rfl, hb⟩; rw [HI.out]
  have HR := Lib.hid (H.out.below hb H.out.lt.1)
  obtain ⟨hc, hf⟩ := HR.out.deep
  have hd' : ¬ (64 : Int) ≤ (d : Int) := by omega
  go_wp2_with fail
  refine (take_yes HR.out HI.out).mono ?_; rintro e w2 ⟨rfl, hr2, hk2⟩
  clear hc hf
  have HK2 := Lib.hid ((KeepR.of hb).trans hk2 hb.size)
  have HR2 := Lib.hid hr2
  obtain ⟨hc, hf⟩ := HR2.out.deep
  clear hk2 hb hr2
  have hdh : (d : Int) < 64 := by omega
  go_upto_region 4 with fail
  have hcast : (Value.int .i64 ((d : Int) + 1)) = .int .i64 ((d + 1 : Nat) : Int) := by simp
  rw [hcast]
  have HR3 := Lib.hid (HR2.out.setDeep (d + 1))
  have HK3 := Lib.hid (HK2.out.setCell (p := ⟨R, 1, none⟩) (Or.inl rfl) (.int .i64 ((d + 1 : Nat) : Int)))
  clear hcast hc hf HR2
  generalize w2.setCell ⟨R, 1, none⟩ (.int .i64 ((d + 1 : Nat) : Int)) = W3 at *
  clear HK2
  go_wp2_with fail
  refine (HF.out _ HR3.out HK3.out).mono ?_
  intro e w4 ho
  obtain ⟨hk4, ho⟩ := ho
  have HK4 := Lib.hid ((HK3.out.mono hB).trans hk4 (Nat.le_refl _))
  have hs4 : B ≤ w4.heap.size := Nat.le_trans hB (Nat.le_trans HK3.out.size hk4.size)
  cases hM : M r with
  | error q =>
    obtain ⟨p, er⟩ := q
    rw [hM] at ho
    subst ho
    refine ⟨rfl, OutB.err ?_ HK4.out⟩
    unfold withinR
    rw [HOP.out]
    simp only []
    rw [hM]
  | ok q =>
    obtain ⟨a, ts2⟩ := q
    rw [hM] at ho
    obtain ⟨hr4, v, rfl, rfl, hp⟩ := ho
    have HR4 := Lib.hid hr4
    have HP4 := Lib.hid hp
    have HM := Lib.hid hM
    clear hM hr4 hp hk4 HK3 HR3 HF
    have hRl := HR4.out.lt.1
    have hd1 : ((d + 1 : Nat) : Int) = (d : Int) + 1 := by simp
    have hdd : ((d + 1 : Nat) : Int) - 1 = (d : Int) := by omega
    have hdb : ((d + 1 : Nat) : Int) ≤ 64 := by omega
    have hdz : (0 : Int) ≤ ((d + 1 : Nat) : Int) := by omega
    obtain ⟨D, hD⟩ : ∃ D : Int, D = ((d + 1 : Nat) : Int) := ⟨_, rfl⟩
    have HD := Lib.hid hD
    cases y with
    | nil =>
      obtain ⟨hc, hf⟩ := HR4.out.deep
      rw [← hD] at hdb hdz hc
      clear hD hd1 hdd
      go_wp2_with fail
      go_end0
      have hdd : D - 1 = (d : Int) := by have := HD.out; omega
      rw [hdd]
      refine OutB.ok (x := a) (ts := ts2) ?_ (HK4.out.setCell (Or.inl rfl) _) (HR4.out.setDeep d) (HP.out a w4 _ HP4.out ((KeepR.refl _ R w4).setCell (Or.inl rfl) _))
      unfold withinR
      rw [HOP.out]
      simp only []
      rw [HM.out]
      rfl
    | cons c y =>
      obtain ⟨t2, r2, rfl⟩ := HR4.out.fin.cons
      cases hi2 : isT (c :: y) (t2 :: r2)
      · have HI2 := Lib.hid hi2; clear hi2 hd1 hdd hD hdb hdz
        go_wp2_with fail
        refine (take_no HR4.out HI2.out).mono ?_; rintro e w5 ⟨rfl, hb5⟩
        go_wp2_with fail
        refine ⟨rfl, OutB.err ?_ (HK4.out.below hb5 hs4)⟩
        unfold withinR
        rw [HOP.out]
        simp only []
        rw [HM.out]
        simp only []
        unfold takeT
        rw [if_neg (by simp), HI2.out]
        rfl
      · have HI2 := Lib.hid hi2; clear hi2 hd1 hdd
        go_wp2_with fail
        refine (take_yes HR4.out HI2.out).mono ?_; rintro e w5 ⟨rfl, hr5, hk5⟩
        obtain ⟨hc, hf⟩ := hr5.deep
        rw [← hD] at hdb hdz hc
        have HR5 := Lib.hid hr5; have HK5 := Lib.hid hk5
        clear hD hr5 hk5
        go_wp2_with fail
        go_end0
        have hdd : D - 1 = (d : Int) := by have := HD.out; omega
        rw [hdd]
        refine OutB.ok (x := a) (ts := r2) ?_ ((HK4.out.trans HK5.out hs4).setCell (Or.inl rfl) _) (HR5.out.setDeep d) (HP.out a w4 _ HP4.out (HK5.out.setCell (Or.inl rfl) _))
        unfold withinR
        rw [HOP.out]
        simp only []
        rw [HM.out]
        simp only []
        unfold takeT
        rw [if_neg (by simp), HI2.out]
        rfl
/-- within. -/
theorem within_any {α : Type} (B R d F : Nat) (x y : List UInt8) (cap : Array Value) (ts : List Tok) (w : World) (M : List Tok → Except PErr (α × List Tok)) (P : α → Value → World → Prop) (h : RD w R ts d) (hd : d ≤ 64) (hB : B ≤ w.heap.size) (hE : ∀ W, (callFunc F cap).run Tryz.prog W = .ok (.enter F cap) W)
    (hF : ∀ ts1 w1, openT x d ts = .ok ts1 → RD w1 R ts1 (d + 1) → KeepR w.heap.size R w w1 → Calls Tryz.prog F cap w1 (OutB B w1 R (d + 1) (M ts1) fun a v w' => v = .tuple #[] ∧ P a v w'))
    (hP : ∀ a w1 w2, P a (.tuple #[]) w1 → KeepR w1.heap.size R w1 w2 → P a (.tuple #[]) w2) :
    Calls Tryz.prog 144 #[.pointer (some ⟨R, 0, none⟩), .string ⟨x.toArray⟩, .string ⟨y.toArray⟩, .func (.func F) #[] cap] w (OutB B w R d (withinR x y d M ts) P) := by
  cases hi : isT x ts
  · exact within_no B R d F x y cap ts w M P h hi hB
  · by_cases hd64 : 64 ≤ d
    · exact within_deep B R d F x y cap ts w M P h hi hd64 hB
    · obtain ⟨t, r, rfl⟩ := h.fin.cons
      have hop : openT x d (t :: r) = .ok r := by
        unfold openT takeT
        rw [hi, if_neg (by simp; omega), if_pos rfl]; rfl
      exact within_yes B R d F x y cap t r w M P h hi (by omega) hB hE (fun w1 => hF r w1 hop) hP
end Go.Proofs.YtkkeocnnecegbaaGreatDoor
