/- The walk over array. By an AI agent. -/
import Derived.Test.YtkkeocnnecegbaaGreatDoorPwP
namespace Go.Proofs.YtkkeocnnecegbaaGreatDoor
open Go.RowKit

theorem take_eq_no {x : List UInt8} {t : Tok} {r : List Tok} (h : isT x (t :: r) = false) : takeT x (t :: r) = .error (t.at', 140) := by unfold takeT; rw [h]; rfl
theorem take_eq_yes {x : List UInt8} {t : Tok} {r : List Tok} (h : isT x (t :: r) = true) : takeT x (t :: r) = .ok r := by unfold takeT; rw [h]; rfl
theorem name_eq_yes {t : Tok} {r : List Tok} (h : t.kind = 1) : nameT (t :: r) = .ok (t.text, r) := by unfold nameT; rw [if_pos (show nowKind (t :: r) = 1 from h)]; rfl
theorem name_eq_no {t : Tok} {r : List Tok} (h : t.kind ≠ 1) : nameT (t :: r) = .error (t.at', 140) := by unfold nameT; rw [if_neg (show ¬ nowKind (t :: r) = 1 from h)]; rfl
def numTok (ts : List Tok) : Except PErr (Int × List Tok) := if nowKind ts = 3 then .ok (nowN ts, ts.tail) else .error (nowAt ts, 140)
theorem arrayS_eq (ts : List Tok) : arrayS ts = match takeT [118, 97, 114] ts with
  | .error e => .error e
  | .ok ts1 => match nameT ts1 with
    | .error e => .error e
    | .ok (t, ts2) => match takeT [91] ts2 with
      | .error e => .error e
      | .ok ts3 => match numTok ts3 with
        | .error e => .error e
        | .ok (n, ts4) => match takeT [93] ts4 with
          | .error e => .error e
          | .ok ts5 => match takeT [59] ts5 with
            | .error e => .error e
            | .ok ts6 => .ok (.mk 2 t n (nowAt ts) [], ts6) := by
  unfold arrayS numTok
  cases takeT [118, 97, 114] ts with
  | error e => rfl
  | ok ts1 =>
    simp only []
    cases nameT ts1 with
    | error e => rfl
    | ok v =>
      obtain ⟨t, ts2⟩ := v
      simp only []
      cases takeT [91] ts2 with
      | error e => rfl
      | ok ts3 =>
        simp only []
        by_cases h : nowKind ts3 = 3
        · rw [if_pos h, if_pos h]
          simp only []
          cases takeT [93] ts3.tail with
          | error e => rfl
          | ok ts5 =>
            simp only []
            cases takeT [59] ts5 <;> rfl
        · rw [if_neg h, if_neg h]

set_option maxRecDepth 100000 in
set_option maxHeartbeats 8000000 in
theorem array_any (R d : Nat) (ts : List Tok) (w : World) (h : RD w R ts d) :
    Calls Tryz.prog 54 #[.pointer (some ⟨R, 0, none⟩)] w (XOut w R d (arrayS ts)) := by
  obtain ⟨t, r, rfl⟩ := h.fin.cons
  have HU := Lib.hid (arrayS_eq (t :: r))
  have H := Lib.hid h
  have hRw := h.lt.1
  clear h
  have f0 := fld0
  have f2 := fld2
  go_enter Tryz.func54, Tryz.ntmps54
  go_wp2_with fail
  refine (node_any R d 2 (t :: r) _ H.out).mono ?_; rintro e w1 ⟨X, rfl, hX, hb1, hk1⟩
  have HR1 := Lib.hid (H.out.below hk1 hRw)
  have HX1 := Lib.hid (OpenI.fresh hb1)
  have HK1 := Lib.hid (KeepR.of (R := R) hk1)
  have hRX : R < X := by omega
  have hs1 := hk1.size
  clear hb1 hk1
  cases h1 : isT [118, 97, 114] (t :: r)
  · have I := Lib.hid h1; clear h1
    go_wp2_with fail
    refine (take_no (x := [118, 97, 114]) HR1.out I.out).mono ?_; rintro e w2 ⟨rfl, hb⟩
    go_wp2_with fail
    exact ⟨rfl, OutB.err (by rw [HU.out, take_eq_no I.out]) (HK1.out.below hb hs1)⟩
  have I := Lib.hid h1; clear h1
  go_wp2_with fail
  refine (take_yes (x := [118, 97, 114]) HR1.out I.out).mono ?_; rintro e w2 ⟨rfl, hr, hk⟩
  have hu := HU.out
  rw [take_eq_yes I.out] at hu
  simp only [] at hu
  have HU2 := Lib.hid hu
  clear hu
  have HR2 := Lib.hid hr
  have HX2 := Lib.hid (HX1.out.keep hk HX1.out.top hRX)
  have HK2 := Lib.hid (HK1.out.trans hk hs1)
  have hs2 : w.heap.size ≤ w2.heap.size := HK2.out.size
  clear hr hk HU HR1 HX1 HK1 I
  obtain ⟨t2, r2, rfl⟩ := HR2.out.fin.cons
  by_cases hn : t2.kind = 1
  case neg =>
    have I := Lib.hid hn; clear hn
    go_wp2_with fail
    refine (name_no HR2.out I.out).mono ?_; rintro e w3 ⟨rfl, hb⟩
    go_wp2_with fail
    exact ⟨rfl, OutB.err (by rw [HU2.out, name_eq_no I.out]) (HK2.out.below hb hs2)⟩
  have I := Lib.hid hn; clear hn
  go_wp2_with fail
  refine (name_yes HR2.out I.out).mono ?_; rintro e w3 ⟨rfl, hr, hk⟩
  have hu := HU2.out
  rw [name_eq_yes I.out] at hu
  simp only [] at hu
  have HU3 := Lib.hid hu
  clear hu
  have hx := HX2.out.keep hk HX2.out.top hRX
  obtain ⟨vv, bb⟩ := hx.blk
  have e1 : w3.cell? ⟨X, 1, none⟩ = some (.string ⟨([] : List UInt8).toArray⟩) := bb.cell 1
  have e2 := bb.free 1
  have HR3 := Lib.hid (hr.set (p := ⟨X, 1, none⟩) hRX (.string ⟨t2.text.toArray⟩))
  have HX3 := Lib.hid (hx.text t2.text)
  have HK3 := Lib.hid ((HK2.out.trans hk hs2).setCell (p := ⟨X, 1, none⟩) (Or.inr hX) (.string ⟨t2.text.toArray⟩))
  clear hr hk hx bb HU2 HR2 HX2 HK2 I
  go_upto_region 4 with fail
  generalize w3.setCell ⟨X, 1, none⟩ (.string ⟨t2.text.toArray⟩) = W3 at *
  have hs3 : w.heap.size ≤ W3.heap.size := HK3.out.size
  clear e1 e2
  obtain ⟨t3, r3, rfl⟩ := HR3.out.fin.cons
  cases h1 : isT [91] (t3 :: r3)
  · have I := Lib.hid h1; clear h1
    go_wp2_with fail
    refine (take_no (x := [91]) HR3.out I.out).mono ?_; rintro e w4 ⟨rfl, hb⟩
    go_wp2_with fail
    exact ⟨rfl, OutB.err (by rw [HU3.out, take_eq_no I.out]) (HK3.out.below hb hs3)⟩
  have I := Lib.hid h1; clear h1
  go_wp2_with fail
  refine (take_yes (x := [91]) HR3.out I.out).mono ?_; rintro e w4 ⟨rfl, hr, hk⟩
  have hu := HU3.out
  rw [take_eq_yes I.out] at hu
  simp only [] at hu
  have HU4 := Lib.hid hu
  clear hu
  have HR4 := Lib.hid hr
  have HX4 := Lib.hid (HX3.out.keep hk HX3.out.top hRX)
  have HK4 := Lib.hid (HK3.out.trans hk hs3)
  have hs4 : w.heap.size ≤ w4.heap.size := HK4.out.size
  clear hr hk HU3 HR3 HX3 HK3 I
  obtain ⟨t4, r4, rfl⟩ := HR4.out.fin.cons
  by_cases hn : t4.kind = 3
  case neg =>
    have kk : ((t4.kind : Int) == 3) = false := by simp; omega
    have I := Lib.hid hn; clear hn
    go_wp2_with fail
    refine (now_any R t4 r4 d _ HR4.out).mono ?_; rintro e w5 ⟨rfl, hb⟩; unfold tokA
    have HR5 := Lib.hid (HR4.out.below hb HR4.out.lt.1)
    have HK5 := Lib.hid (HK4.out.below hb hs4)
    have hs5 : w.heap.size ≤ w5.heap.size := HK5.out.size
    clear hb
    go_wp2_with fail
    refine (pass_no R t4 r4 d _ HR5.out).mono ?_; rintro e w6 ⟨rfl, hb⟩
    go_wp2_with fail
    refine ⟨rfl, OutB.err ?_ (HK5.out.below hb hs5)⟩
    rw [HU4.out]; unfold numTok; rw [if_neg (show ¬ nowKind (t4 :: r4) = 3 from I.out)]; rfl
  have kk : ((t4.kind : Int) == 3) = true := by simp [hn]
  have I := Lib.hid hn; clear hn
  go_wp2_with fail
  refine (now_any R t4 r4 d _ HR4.out).mono ?_; rintro e w5 ⟨rfl, hb⟩; unfold tokA
  have HR5 := Lib.hid (HR4.out.below hb HR4.out.lt.1)
  have HK5 := Lib.hid (HK4.out.below hb hs4)
  have HX5 := Lib.hid (HX4.out.keep (.of hb) HX4.out.top hRX)
  have hs5 : w.heap.size ≤ w5.heap.size := HK5.out.size
  clear hb HR4 HK4 HX4
  go_wp2_with fail
  refine (pass_yes R t4 r4 d _ HR5.out (by have := I.out; omega)).mono ?_; rintro e w6 ⟨rfl, hr, hk⟩; unfold tokA
  have hu := HU4.out
  rw [show numTok (t4 :: r4) = .ok (t4.n, r4) by unfold numTok; rw [if_pos (show nowKind (t4 :: r4) = 3 from I.out)]; rfl] at hu
  simp only [] at hu
  have HU6 := Lib.hid hu
  clear hu
  have hx := HX5.out.keep hk HX5.out.top hRX
  obtain ⟨vv, bb⟩ := hx.blk
  have e1 : w6.cell? ⟨X, 2, none⟩ = some (.int .i64 0) := bb.cell 2
  have e2 := bb.free 2
  have HR6 := Lib.hid (hr.set (p := ⟨X, 2, none⟩) hRX (.int .i64 t4.n))
  have HX6 := Lib.hid (hx.num t4.n)
  have HK6 := Lib.hid ((HK5.out.trans hk hs5).setCell (p := ⟨X, 2, none⟩) (Or.inr hX) (.int .i64 t4.n))
  clear hr hk hx bb HU4 HR5 HX5 HK5 I kk
  go_upto_region 6 with fail
  generalize w6.setCell ⟨X, 2, none⟩ (.int .i64 t4.n) = W6 at *
  have hs6 : w.heap.size ≤ W6.heap.size := HK6.out.size
  clear e1 e2
  obtain ⟨t7, r7, rfl⟩ := HR6.out.fin.cons
  cases h1 : isT [93] (t7 :: r7)
  · have I := Lib.hid h1; clear h1
    go_wp2_with fail
    refine (take_no (x := [93]) HR6.out I.out).mono ?_; rintro e w7 ⟨rfl, hb⟩
    go_wp2_with fail
    exact ⟨rfl, OutB.err (by rw [HU6.out, take_eq_no I.out]) (HK6.out.below hb hs6)⟩
  have I := Lib.hid h1; clear h1
  go_wp2_with fail
  refine (take_yes (x := [93]) HR6.out I.out).mono ?_; rintro e w7 ⟨rfl, hr, hk⟩
  have hu := HU6.out
  rw [take_eq_yes I.out] at hu
  simp only [] at hu
  have HU7 := Lib.hid hu
  clear hu
  have HR7 := Lib.hid hr
  have HX7 := Lib.hid (HX6.out.keep hk HX6.out.top hRX)
  have HK7 := Lib.hid (HK6.out.trans hk hs6)
  have hs7 : w.heap.size ≤ w7.heap.size := HK7.out.size
  clear hr hk HU6 HR6 HX6 HK6 I
  obtain ⟨t8, r8, rfl⟩ := HR7.out.fin.cons
  cases h1 : isT [59] (t8 :: r8)
  · have I := Lib.hid h1; clear h1
    go_wp2_with fail
    refine (take_no (x := [59]) HR7.out I.out).mono ?_; rintro e w8 ⟨rfl, hb⟩
    go_wp2_with fail
    exact ⟨rfl, OutB.err (by rw [HU7.out, take_eq_no I.out]) (HK7.out.below hb hs7)⟩
  have I := Lib.hid h1; clear h1
  go_wp2_with fail
  refine (take_yes (x := [59]) HR7.out I.out).mono ?_; rintro e w8 ⟨rfl, hr, hk⟩
  have hu := HU7.out
  rw [take_eq_yes I.out] at hu
  simp only [] at hu
  have HU8 := Lib.hid hu
  clear hu
  have HR8 := Lib.hid hr
  have HX8 := Lib.hid (HX7.out.keep hk HX7.out.top hRX)
  have HK8 := Lib.hid (HK7.out.trans hk hs7)
  clear hr hk HU7 HR7 HX7 HK7 I
  go_wp2_with fail
  go_ret
  exact OutB.ok HU8.out HK8.out HR8.out ⟨X, rfl, HX8.out.close.mono (fun j hj _ => by omega)⟩
end Go.Proofs.YtkkeocnnecegbaaGreatDoor
