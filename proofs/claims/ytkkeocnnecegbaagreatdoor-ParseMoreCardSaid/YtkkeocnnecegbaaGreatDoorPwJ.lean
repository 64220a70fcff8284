/- The walks over ends, declare, reads. By an AI agent. -/
import Derived.Test.YtkkeocnnecegbaaGreatDoorPwI
namespace Go.Proofs.YtkkeocnnecegbaaGreatDoor
open Go.RowKit

/-- What a part that goes on with an item leaves: the item, so changed. -/
def IPost (X L : Nat) (y : Item) (v : Value) (w' : World) : Prop := v = .tuple #[] ∧ ∃ C, OpenI w' X L C y
def mapR (g : Item → Item) (res : Rd) : Rd :=
  match res with
  | .error e => .error e
  | .ok (x, ts) => .ok (g x, ts)

set_option maxRecDepth 100000 in
set_option maxHeartbeats 4000000 in
theorem ends_any (f R d X L C k a : Nat) (t : List UInt8) (n : Int) (ks : List Item) (ts : List Tok) (w : World) (h : RD w R ts d) (hx : OpenI w X L C (.mk k t n a ks)) (hR : R < X) (hd : d ≤ 64) (hk : ks.length ≤ 100000) (hne : endsS f d ts ≠ .error outE) :
    Calls Tryz.prog 183 #[.pointer (some ⟨R, 0, none⟩), .pointer (some ⟨X, 0, none⟩)] w (OutB X w R d (mapR (fun y => .mk k t n a (ks ++ [y])) (endsS f d ts)) (IPost X L)) := by
  have hU : endsS f d ts = match binS f 1 d ts with
    | .error e => .error e
    | .ok (x, ts1) => match takeT [59] ts1 with
      | .error e => .error e
      | .ok ts2 => .ok (x, ts2) := rfl
  have H := Lib.hid h; have HX := Lib.hid hx; have HNE := Lib.hid hne; have HU := Lib.hid hU
  have hlt := hx.lt; have hle := hx.le; have htop := hx.top
  clear h hx hne hU
  go_enter Tryz.func183, Tryz.ntmps183
  go_wp2_with fail
  refine (bin_any f R d ts w H.out hd (fun hc => HNE.out (by rw [HU.out, hc]))).mono ?_
  rintro e w1 ho
  cases hW : binS f 1 d ts with
  | error q =>
    obtain ⟨p, er⟩ := q
    rw [hW] at ho
    obtain ⟨rfl, hk1⟩ := ho.no
    exact ⟨rfl, OutB.err (by rw [HU.out, hW]; rfl) (hk1.mono (by omega))⟩
  | ok q =>
    obtain ⟨x, ts1⟩ := q
    rw [hW] at ho
    obtain ⟨p, rfl, hi1, hr1, hk1⟩ := ho.yes
    have HU1 : Hid (endsS f d ts = match takeT [59] ts1 with
      | .error e => .error e
      | .ok ts2 => .ok (x, ts2)) := Lib.hid (by rw [HU.out, hW])
    have HI := Lib.hid (hi1.alloc (.cells #[.pointer (some ⟨p, 0, none⟩)] 93))
    have HR1 := Lib.hid (hr1.alloc (.cells #[.pointer (some ⟨p, 0, none⟩)] 93))
    have HX1 := Lib.hid ((((HX.out.grow htop (Nat.le_refl _)).keep hk1 (Nat.le_refl _) hR)).alloc (.cells #[.pointer (some ⟨p, 0, none⟩)] 93))
    have HK1 := Lib.hid ((hk1.mono (C := X) (by omega)).alloc (by have := hk1.size; omega) (.cells #[.pointer (some ⟨p, 0, none⟩)] 93))
    clear hW hi1 hr1 hk1 HU
    go_wp2_with fail
    refine (add_any X L w.heap.size w1.heap.size 1 k a t n ks [x] [p] _ HX1.out (Blk.new w1 93 _) (KidsAt.one HI.out) rfl (by omega) (by omega)).mono ?_
    rintro e w2 ⟨rfl, hx2, hk2⟩
    have HX2 := Lib.hid hx2
    have HR2 := Lib.hid (HR1.out.item hk2 hR hlt)
    have HK2 := Lib.hid (HK1.out.trans (hk2.item (B := X) (Nat.le_refl _) hlt) (Nat.le_refl _))
    have hs2 : X ≤ w2.heap.size := by have := hx2.le; omega
    clear hx2 hk2 HX1 HR1 HK1
    obtain ⟨t1, r1, rfl⟩ := HR2.out.fin.cons
    cases hi : isT [59] (t1 :: r1)
    · have HT := Lib.hid hi; clear hi
      go_wp2_with fail
      refine (take_no (x := [59]) HR2.out HT.out).mono ?_; rintro e w3 ⟨rfl, hb3⟩
      go_wp2_with fail
      refine ⟨rfl, OutB.err ?_ (HK2.out.below hb3 hs2)⟩
      rw [HU1.out]; unfold takeT; rw [HT.out]; rfl
    · have HT := Lib.hid hi; clear hi
      go_wp2_with fail
      refine (take_yes (x := [59]) HR2.out HT.out).mono ?_; rintro e w3 ⟨rfl, hr3, hk3⟩
      have HX3 := Lib.hid (HX2.out.keep hk3 (Nat.le_refl _) hR)
      have HR3 := Lib.hid hr3
      have HK3 := Lib.hid (HK2.out.trans hk3 hs2)
      clear hr3 hk3
      go_wp2_with fail
      go_end0
      refine OutB.ok (x := .mk k t n a (ks ++ [x])) (ts := r1) ?_ HK3.out HR3.out ⟨rfl, _, HX3.out⟩
      rw [HU1.out]; unfold takeT; rw [HT.out]; rfl

theorem mapR_eq {g : Item → Item} {res : Rd} {e : PErr} (h : res = .error e) : mapR g res = .error e := by subst h; rfl

set_option maxRecDepth 100000 in
set_option maxHeartbeats 4000000 in
theorem reads_any (R d X L C a : Nat) (ts : List Tok) (w : World) (h : RD w R ts d) (hx : OpenI w X L C (.mk 14 [] 0 a [])) (hR : R < X) :
    Calls Tryz.prog 184 #[.pointer (some ⟨R, 0, none⟩), .pointer (some ⟨X, 0, none⟩)] w (OutB X w R d (readS a ts) (IPost X L)) := by
  obtain ⟨t, r, rfl⟩ := h.fin.cons
  have hlt := hx.lt; have hle := hx.le; have htop := hx.top
  have H := Lib.hid h; have HX := Lib.hid hx
  clear h hx
  by_cases hk : t.kind = 1
  · have hnm : nameT (t :: r) = .ok (t.text, r) := by unfold nameT; rw [if_pos (show nowKind (t :: r) = 1 from hk)]; rfl
    have HU : Hid (readS a (t :: r) = match takeT [59] r with
      | .error e => .error e
      | .ok ts2 => .ok (.mk 14 t.text 0 a [], ts2)) := Lib.hid (by unfold readS; rw [hnm]; simp only []; cases takeT [59] r <;> rfl)
    have HK := Lib.hid hk
    clear hk hnm
    go_enter Tryz.func184, Tryz.ntmps184
    go_wp2_with fail
    refine (name_yes H.out HK.out).mono ?_; rintro e w1 ⟨rfl, hr1, hk1⟩
    have hx1 := HX.out.keep hk1 htop hR
    obtain ⟨v, b1⟩ := hx1.blk
    have e1 : w1.cell? ⟨X, 1, none⟩ = some (.string ⟨([] : List UInt8).toArray⟩) := b1.cell 1
    have e2 := b1.free 1
    have HX1 := Lib.hid (hx1.text t.text)
    have HR1 := Lib.hid (hr1.set (p := ⟨X, 1, none⟩) hR (.string ⟨t.text.toArray⟩))
    have HK1 := Lib.hid ((hk1.mono (C := X) (by omega)).setCell (p := ⟨X, 1, none⟩) (Or.inr (Nat.le_refl _)) (.string ⟨t.text.toArray⟩))
    clear b1 hx1 hr1 hk1
    go_upto_region 1 with fail
    generalize w1.setCell ⟨X, 1, none⟩ (.string ⟨t.text.toArray⟩) = W1 at *
    clear e1 e2
    have hs1 : X ≤ W1.heap.size := by have := HX1.out.top; omega
    obtain ⟨t1, r1, rfl⟩ := HR1.out.fin.cons
    cases hi : isT [59] (t1 :: r1)
    · have HT := Lib.hid hi; clear hi
      go_wp2_with fail
      refine (take_no (x := [59]) HR1.out HT.out).mono ?_; rintro e w3 ⟨rfl, hb3⟩
      go_wp2_with fail
      refine ⟨rfl, OutB.err ?_ (HK1.out.below hb3 hs1)⟩
      rw [HU.out]; unfold takeT; rw [HT.out]; rfl
    · have HT := Lib.hid hi; clear hi
      go_wp2_with fail
      refine (take_yes (x := [59]) HR1.out HT.out).mono ?_; rintro e w3 ⟨rfl, hr3, hk3⟩
      have HX3 := Lib.hid (HX1.out.keep hk3 HX1.out.top hR)
      have HR3 := Lib.hid hr3
      have HK3 := Lib.hid (HK1.out.trans hk3 hs1)
      clear hr3 hk3
      go_wp2_with fail
      go_end0
      refine OutB.ok (x := .mk 14 t.text 0 a []) (ts := r1) ?_ HK3.out HR3.out ⟨rfl, _, HX3.out⟩
      rw [HU.out]; unfold takeT; rw [HT.out]; rfl
  · have HK := Lib.hid hk
    have HU : Hid (readS a (t :: r) = .error (t.at', 140)) := Lib.hid (by unfold readS nameT; rw [if_neg (show ¬ nowKind (t :: r) = 1 from hk)]; rfl)
    clear hk
    go_enter Tryz.func184, Tryz.ntmps184
    go_wp2_with fail
    refine (name_no H.out HK.out).mono ?_; rintro e w1 ⟨rfl, hb1⟩
    go_wp2_with fail
    exact ⟨rfl, OutB.err HU.out (.of (hb1.mono (by omega)))⟩


set_option maxRecDepth 100000 in
set_option maxHeartbeats 4000000 in
theorem declare_any (f R d X L C a : Nat) (ts : List Tok) (w : World) (h : RD w R ts d) (hx : OpenI w X L C (.mk 6 [] 0 a [])) (hR : R < X) (hd : d ≤ 64) (hne : declareS f d a ts ≠ .error outE) :
    Calls Tryz.prog 180 #[.pointer (some ⟨R, 0, none⟩), .pointer (some ⟨X, 0, none⟩)] w (OutB X w R d (declareS f d a ts) (IPost X L)) := by
  obtain ⟨t, r, rfl⟩ := h.fin.cons
  have hlt := hx.lt; have hle := hx.le; have htop := hx.top
  have H := Lib.hid h; have HX := Lib.hid hx; have HNE := Lib.hid hne
  clear h hx hne
  by_cases hk : t.kind = 1
  · have hnm : nameT (t :: r) = .ok (t.text, r) := by unfold nameT; rw [if_pos (show nowKind (t :: r) = 1 from hk)]; rfl
    have HU : Hid (declareS f d a (t :: r) = match takeT [61] r with
      | .error e => .error e
      | .ok ts2 => mapR (fun x => .mk 6 t.text 0 a [x]) (endsS f d ts2)) := Lib.hid (by
      unfold declareS; rw [hnm]; simp only []
      cases takeT [61] r with
      | error e => rfl
      | ok ts2 =>
        simp only []
        cases endsS f d ts2 <;> rfl)
    have HK := Lib.hid hk
    clear hk hnm
    go_enter Tryz.func180, Tryz.ntmps180
    go_wp2_with fail
    refine (name_yes H.out HK.out).mono ?_; rintro e w1 ⟨rfl, hr1, hk1⟩
    have hx1 := HX.out.keep hk1 htop hR
    obtain ⟨v, b1⟩ := hx1.blk
    have e1 : w1.cell? ⟨X, 1, none⟩ = some (.string ⟨([] : List UInt8).toArray⟩) := b1.cell 1
    have e2 := b1.free 1
    have HX1 := Lib.hid (hx1.text t.text)
    have HR1 := Lib.hid (hr1.set (p := ⟨X, 1, none⟩) hR (.string ⟨t.text.toArray⟩))
    have HK1 := Lib.hid ((hk1.mono (C := X) (by omega)).setCell (p := ⟨X, 1, none⟩) (Or.inr (Nat.le_refl _)) (.string ⟨t.text.toArray⟩))
    clear b1 hx1 hr1 hk1
    go_upto_region 1 with fail
    generalize w1.setCell ⟨X, 1, none⟩ (.string ⟨t.text.toArray⟩) = W1 at *
    clear e1 e2
    have hs1 : X ≤ W1.heap.size := by have := HX1.out.top; omega
    obtain ⟨t1, r1, rfl⟩ := HR1.out.fin.cons
    cases hi : isT [61] (t1 :: r1)
    · have HT := Lib.hid hi; clear hi
      go_wp2_with fail
      refine (take_no (x := [61]) HR1.out HT.out).mono ?_; rintro e w3 ⟨rfl, hb3⟩
      go_wp2_with fail
      refine ⟨rfl, OutB.err ?_ (HK1.out.below hb3 hs1)⟩
      rw [HU.out]; unfold takeT; rw [HT.out]; rfl
    · have HT := Lib.hid hi; clear hi
      go_wp2_with fail
      refine (take_yes (x := [61]) HR1.out HT.out).mono ?_; rintro e w3 ⟨rfl, hr3, hk3⟩
      have HX3 := Lib.hid (HX1.out.keep hk3 HX1.out.top hR)
      have HR3 := Lib.hid hr3
      have HK3 := Lib.hid (HK1.out.trans hk3 hs1)
      have HU3 : Hid (declareS f d a (t :: t1 :: r1) = mapR (fun x => .mk 6 t.text 0 a [x]) (endsS f d r1)) := Lib.hid (by rw [HU.out]; unfold takeT; rw [HT.out]; rfl)
      clear hr3 hk3
      go_wp2_with fail
      refine (ends_any f R d X L C 6 a t.text 0 [] r1 w3 HR3.out HX3.out hR hd (by simp) (fun hc => HNE.out (by rw [HU3.out, hc]; rfl))).mono ?_
      rintro e w4 ⟨hk4, ho⟩
      have HK4 := Lib.hid (HK3.out.trans hk4 (Nat.le_refl _))
      simp only [List.nil_append] at ho
      rw [← HU3.out] at ho
      cases hW : declareS f d a (t :: t1 :: r1) with
      | error q =>
        obtain ⟨p, er⟩ := q
        rw [hW] at ho
        subst ho
        exact ⟨rfl, OutB.err rfl HK4.out⟩
      | ok q =>
        obtain ⟨y, ts2⟩ := q
        rw [hW] at ho
        obtain ⟨hr4, v, rfl, rfl, C4, hx4⟩ := ho
        have HR4 := Lib.hid hr4
        have HX4 := Lib.hid hx4
        have HW := Lib.hid hW
        clear hr4 hx4 hk4 hW
        go_wp2_with fail
        go_end0
        exact OutB.ok HW.out HK4.out HR4.out ⟨rfl, C4, HX4.out⟩
  · have HK := Lib.hid hk
    have HU : Hid (declareS f d a (t :: r) = .error (t.at', 140)) := Lib.hid (by unfold declareS nameT; rw [if_neg (show ¬ nowKind (t :: r) = 1 from hk)]; rfl)
    clear hk
    go_enter Tryz.func180, Tryz.ntmps180
    go_wp2_with fail
    refine (name_no H.out HK.out).mono ?_; rintro e w1 ⟨rfl, hb1⟩
    go_wp2_with fail
    exact ⟨rfl, OutB.err HU.out (.of (hb1.mono (by omega)))⟩

end Go.Proofs.YtkkeocnnecegbaaGreatDoor
