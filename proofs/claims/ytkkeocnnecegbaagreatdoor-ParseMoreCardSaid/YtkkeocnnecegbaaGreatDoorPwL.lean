/- The walks over loop and choose. By an AI agent. -/
import Derived.Test.YtkkeocnnecegbaaGreatDoorPwK
namespace Go.Proofs.YtkkeocnnecegbaaGreatDoor
open Go.RowKit

set_option maxRecDepth 100000 in
set_option maxHeartbeats 8000000 in
theorem loop_any (f R d X L C a T : Nat) (ts : List Tok) (w : World) (h : RD w R ts d) (hx : OpenI w X L C (.mk 10 [] 0 a [])) (hR : R < X) (hd : d ≤ 64) (hT : ts.length ≤ T)
    (ih : ∀ W ts', RD W R ts' d → ts'.length ≤ T → blockS f d ts' ≠ .error outE → Calls Tryz.prog 95 #[.pointer (some ⟨R, 0, none⟩)] W (XOut W R d (blockS f d ts')))
    (hne : forS (f + 1) d a ts ≠ .error outE) :
    Calls Tryz.prog 182 #[.pointer (some ⟨R, 0, none⟩), .pointer (some ⟨X, 0, none⟩)] w (OutB X w R d (forS (f + 1) d a ts) (IPost X L)) := by
  have hU : forS (f + 1) d a ts = match binS f 1 d ts with
    | .error e => .error e
    | .ok (x, ts1) => match blockS f d ts1 with
      | .error e => .error e
      | .ok (b, ts2) => .ok (.mk 10 [] 0 a [x, b], ts2) := by
    conv => lhs; unfold forS
    cases binS f 1 d ts with
    | error e => rfl
    | ok v =>
      obtain ⟨x, ts1⟩ := v
      simp only []
      cases blockS f d ts1 <;> rfl
  have H := Lib.hid h; have HX := Lib.hid hx; have HNE := Lib.hid hne; have HU := Lib.hid hU; have IH := Lib.hid ih
  have hlt := hx.lt; have hle := hx.le; have htop := hx.top
  clear h hx hne hU ih
  go_enter Tryz.func182, Tryz.ntmps182
  go_wp2_with fail
  refine (bin_any f R d ts w H.out hd (fun hc => HNE.out (by rw [HU.out, hc]))).mono ?_
  rintro e w1 ho
  cases hW : binS f 1 d ts with
  | error q =>
    obtain ⟨p, er⟩ := q
    rw [hW] at ho
    obtain ⟨rfl, hk1⟩ := ho.no
    exact ⟨rfl, OutB.err (by rw [HU.out, hW]) (hk1.mono (by omega))⟩
  | ok q =>
    obtain ⟨x, ts1⟩ := q
    rw [hW] at ho
    obtain ⟨p, rfl, hi1, hr1, hk1⟩ := ho.yes
    have HU1 : Hid (forS (f + 1) d a ts = match blockS f d ts1 with
      | .error e => .error e
      | .ok (b, ts2) => .ok (.mk 10 [] 0 a [x, b], ts2)) := Lib.hid (by rw [HU.out, hW])
    have HL1 := Lib.hid ((bin_ok H.out.fin hW).2)
    have HI := Lib.hid hi1
    have HR1 := Lib.hid hr1
    have HX1 := Lib.hid ((HX.out.grow htop (Nat.le_refl _)).keep hk1 (Nat.le_refl _) hR)
    have HK1 := Lib.hid hk1
    have hs1 := hk1.size
    clear hW hi1 hr1 hk1 HU
    go_wp2_with fail
    refine (IH.out w1 ts1 HR1.out (by have := HL1.out; omega) (fun hc => HNE.out (by rw [HU1.out, hc]))).mono ?_
    rintro e w2 ho
    cases hW : blockS f d ts1 with
    | error q =>
      obtain ⟨p, er⟩ := q
      rw [hW] at ho
      obtain ⟨rfl, hk2⟩ := ho.no
      exact ⟨rfl, OutB.err (by rw [HU1.out, hW]) ((HK1.out.trans hk2 hs1).mono (by omega))⟩
    | ok q =>
      obtain ⟨b, ts2⟩ := q
      rw [hW] at ho
      obtain ⟨q, rfl, hi2, hr2, hk2⟩ := ho.yes
      have HU2 : Hid (forS (f + 1) d a ts = .ok (.mk 10 [] 0 a [x, b], ts2)) := Lib.hid (by rw [HU1.out, hW])
      have hs2 := hk2.size
      have HP := Lib.hid (HI.out.keep (w' := w2) (fun j hj hl => hk2.block j hl (by omega)))
      have HKS : Hid (KidsAt (w2.alloc (.cells #[.pointer (some ⟨p, 0, none⟩), .pointer (some ⟨q, 0, none⟩)] 93)) (fun j => w.heap.size ≤ j) [p, q] [x, b]) := Lib.hid (by
        unfold KidsAt
        exact ⟨HP.out.alloc _, KidsAt.one ((hi2.alloc _).mono (fun j hj _ => by omega))⟩)
      have HX2 := Lib.hid ((HX1.out.keep hk2 hs1 hR).alloc (.cells #[.pointer (some ⟨p, 0, none⟩), .pointer (some ⟨q, 0, none⟩)] 93))
      have HR2 := Lib.hid (hr2.alloc (.cells #[.pointer (some ⟨p, 0, none⟩), .pointer (some ⟨q, 0, none⟩)] 93))
      have HK2 := Lib.hid (((HK1.out.trans hk2 hs1).mono (C := X) (by omega)).alloc (by omega) (.cells #[.pointer (some ⟨p, 0, none⟩), .pointer (some ⟨q, 0, none⟩)] 93))
      clear hW hi2 hr2 hk2 HU1 HP
      go_wp2_with fail
      refine (add_any X L w.heap.size w2.heap.size 2 10 a [] 0 [] [x, b] [p, q] _ HX2.out (Blk.new w2 93 _) HKS.out rfl (by omega) (by simp)).mono ?_
      rintro e w3 ⟨rfl, hx3, hk3⟩
      have HX3 := Lib.hid hx3
      have HR3 := Lib.hid (HR2.out.item hk3 hR hlt)
      have HK3 := Lib.hid (HK2.out.trans (hk3.item (B := X) (Nat.le_refl _) hlt) (Nat.le_refl _))
      clear hx3 hk3
      go_wp2_with fail
      go_end0
      exact OutB.ok HU2.out HK3.out HR3.out ⟨rfl, _, HX3.out⟩

set_option maxRecDepth 100000 in
set_option maxHeartbeats 8000000 in
theorem choose_any (f R d X L C a T : Nat) (ts : List Tok) (w : World) (h : RD w R ts d) (hx : OpenI w X L C (.mk 9 [] 0 a [])) (hR : R < X) (hd : d ≤ 64) (hT : ts.length ≤ T)
    (ih : ∀ W ts', RD W R ts' d → ts'.length ≤ T → blockS f d ts' ≠ .error outE → Calls Tryz.prog 95 #[.pointer (some ⟨R, 0, none⟩)] W (XOut W R d (blockS f d ts')))
    (hne : chooseS (f + 1) d a ts ≠ .error outE) :
    Calls Tryz.prog 181 #[.pointer (some ⟨R, 0, none⟩), .pointer (some ⟨X, 0, none⟩)] w (OutB X w R d (chooseS (f + 1) d a ts) (IPost X L)) := by
  have hU : chooseS (f + 1) d a ts = match binS f 1 d ts with
    | .error e => .error e
    | .ok (x, ts1) => match blockS f d ts1 with
      | .error e => .error e
      | .ok (b, ts2) =>
        if isT [101, 108, 115, 101] ts2 = true then
          match blockS f d ts2.tail with
          | .error e => .error e
          | .ok (c, ts3) => .ok (.mk 9 [] 0 a [x, b, c], ts3)
        else .ok (.mk 9 [] 0 a [x, b], ts2) := by
    conv => lhs; unfold chooseS
    cases binS f 1 d ts with
    | error e => rfl
    | ok v =>
      obtain ⟨x, ts1⟩ := v
      simp only []
      cases blockS f d ts1 with
      | error e => rfl
      | ok v =>
        obtain ⟨b, ts2⟩ := v
        simp only []
        split
        · cases blockS f d ts2.tail <;> rfl
        · rfl
  have H := Lib.hid h; have HX := Lib.hid hx; have HNE := Lib.hid hne; have HU := Lib.hid hU; have IH := Lib.hid ih
  have hlt := hx.lt; have hle := hx.le; have htop := hx.top
  clear h hx hne hU ih
  go_enter Tryz.func181, Tryz.ntmps181
  go_wp2_with fail
  refine (bin_any f R d ts w H.out hd (fun hc => HNE.out (by rw [HU.out, hc]))).mono ?_
  rintro e w1 ho
  cases hW : binS f 1 d ts with
  | error q =>
    obtain ⟨p, er⟩ := q
    rw [hW] at ho
    obtain ⟨rfl, hk1⟩ := ho.no
    exact ⟨rfl, OutB.err (by rw [HU.out, hW]) (hk1.mono (by omega))⟩
  | ok q =>
    obtain ⟨x, ts1⟩ := q
    rw [hW] at ho
    obtain ⟨p, rfl, hi1, hr1, hk1⟩ := ho.yes
    have HU1 : Hid (chooseS (f + 1) d a ts = match blockS f d ts1 with
      | .error e => .error e
      | .ok (b, ts2) =>
        if isT [101, 108, 115, 101] ts2 = true then
          match blockS f d ts2.tail with
          | .error e => .error e
          | .ok (c, ts3) => .ok (.mk 9 [] 0 a [x, b, c], ts3)
        else .ok (.mk 9 [] 0 a [x, b], ts2)) := Lib.hid (by rw [HU.out, hW])
    have HL1 := Lib.hid ((bin_ok H.out.fin hW).2)
    have HI := Lib.hid hi1
    have HR1 := Lib.hid hr1
    have HX1 := Lib.hid ((HX.out.grow htop (Nat.le_refl _)).keep hk1 (Nat.le_refl _) hR)
    have HK1 := Lib.hid hk1
    have hs1 := hk1.size
    clear hW hi1 hr1 hk1 HU
    go_wp2_with fail
    refine (IH.out w1 ts1 HR1.out (by have := HL1.out; omega) (fun hc => HNE.out (by rw [HU1.out, hc]))).mono ?_
    rintro e w2 ho
    cases hW : blockS f d ts1 with
    | error q =>
      obtain ⟨p, er⟩ := q
      rw [hW] at ho
      obtain ⟨rfl, hk2⟩ := ho.no
      exact ⟨rfl, OutB.err (by rw [HU1.out, hW]) ((HK1.out.trans hk2 hs1).mono (by omega))⟩
    | ok q =>
      obtain ⟨b, ts2⟩ := q
      rw [hW] at ho
      obtain ⟨q, rfl, hi2, hr2, hk2⟩ := ho.yes
      have HU2 : Hid (chooseS (f + 1) d a ts = if isT [101, 108, 115, 101] ts2 = true then
          match blockS f d ts2.tail with
          | .error e => .error e
          | .ok (c, ts3) => .ok (.mk 9 [] 0 a [x, b, c], ts3)
        else .ok (.mk 9 [] 0 a [x, b], ts2)) := Lib.hid (by rw [HU1.out, hW])
      have HL2 := Lib.hid (((stmt_ok f).1 _ _ _ _ HR1.out.fin hW).2)
      have hs2 := hk2.size
      have HP := Lib.hid (HI.out.keep (w' := w2) (fun j hj hl => hk2.block j hl (by omega)))
      have HKS : Hid (KidsAt (w2.alloc (.cells #[.pointer (some ⟨p, 0, none⟩), .pointer (some ⟨q, 0, none⟩)] 93)) (fun j => w.heap.size ≤ j) [p, q] [x, b]) := Lib.hid (by
        unfold KidsAt
        exact ⟨HP.out.alloc _, KidsAt.one ((hi2.alloc _).mono (fun j hj _ => by omega))⟩)
      have HX2 := Lib.hid ((HX1.out.keep hk2 hs1 hR).alloc (.cells #[.pointer (some ⟨p, 0, none⟩), .pointer (some ⟨q, 0, none⟩)] 93))
      have HR2 := Lib.hid (hr2.alloc (.cells #[.pointer (some ⟨p, 0, none⟩), .pointer (some ⟨q, 0, none⟩)] 93))
      have HK2 := Lib.hid (((HK1.out.trans hk2 hs1).mono (C := X) (by omega)).alloc (by omega) (.cells #[.pointer (some ⟨p, 0, none⟩), .pointer (some ⟨q, 0, none⟩)] 93))
      clear hW hi2 hr2 hk2 HU1 HP
      go_wp2_with fail
      refine (add_any X L w.heap.size w2.heap.size 2 9 a [] 0 [] [x, b] [p, q] _ HX2.out (Blk.new w2 93 _) HKS.out rfl (by omega) (by simp)).mono ?_
      rintro e w3 ⟨rfl, hx3, hk3⟩
      have HX3 := Lib.hid hx3
      have HR3 := Lib.hid (HR2.out.item hk3 hR hlt)
      have HK3 := Lib.hid (HK2.out.trans (hk3.item (B := X) (Nat.le_refl _) hlt) (Nat.le_refl _))
      have hs3 : X ≤ w3.heap.size := by have := hx3.top; have := hx3.le; omega
      clear hx3 hk3 HX2 HR2 HK2
      obtain ⟨t', r', rfl⟩ := HR3.out.fin.cons
      cases hi : isT [101, 108, 115, 101] (t' :: r')
      · have HI3 := Lib.hid hi; clear hi
        go_wp2_with fail
        refine (is_any R t' r' d [101, 108, 115, 101] _ HR3.out).mono ?_; rintro e w4 ⟨rfl, hb4⟩; rw [HI3.out]
        have HR4 := Lib.hid (HR3.out.below hb4 HR3.out.lt.1)
        have HX4 := Lib.hid (HX3.out.keep (.of hb4) (Nat.le_refl _) hR)
        have HK4 := Lib.hid (HK3.out.below hb4 hs3)
        clear hb4
        go_wp2_with fail
        go_end0
        exact OutB.ok (by rw [HU2.out, HI3.out, if_neg (by simp)]; rfl) HK4.out HR4.out ⟨rfl, _, HX4.out⟩
      · have HI3 := Lib.hid hi; clear hi
        have HU3 : Hid (chooseS (f + 1) d a ts = match blockS f d r' with
          | .error e => .error e
          | .ok (c, ts3) => .ok (.mk 9 [] 0 a [x, b, c], ts3)) := Lib.hid (by
          rw [HU2.out, HI3.out, if_pos rfl]; rfl)
        go_wp2_with fail
        refine (is_any R t' r' d [101, 108, 115, 101] _ HR3.out).mono ?_; rintro e w4 ⟨rfl, hb4⟩; rw [HI3.out]
        have HR4 := Lib.hid (HR3.out.below hb4 HR3.out.lt.1)
        have HX4 := Lib.hid (HX3.out.keep (.of hb4) (Nat.le_refl _) hR)
        have HK4 := Lib.hid (HK3.out.below hb4 hs3)
        have hs4 : X ≤ w4.heap.size := Nat.le_trans hs3 hb4.size
        have hs34 := hb4.size
        clear hb4
        go_wp2_with fail
        refine (take_yes (x := [101, 108, 115, 101]) HR4.out HI3.out).mono ?_; rintro e w5 ⟨rfl, hr5, hk5⟩
        have HR5 := Lib.hid hr5
        have HX5 := Lib.hid ((HX4.out.keep hk5 hs34 hR).grow (C' := w5.heap.size) (by have := hk5.size; omega) (Nat.le_refl _))
        have HK5 := Lib.hid (HK4.out.trans hk5 hs4)
        have hs5 : X ≤ w5.heap.size := Nat.le_trans hs4 hk5.size
        have hs45 := hk5.size
        clear hr5 hk5
        go_wp2_with fail
        refine (IH.out w5 r' HR5.out (by have := HL1.out; have := HL2.out; simp only [List.length_cons] at this; omega) (fun hc => HNE.out (by rw [HU3.out, hc]))).mono ?_
        rintro e w6 ho
        cases hW : blockS f d r' with
        | error q =>
          obtain ⟨p, er⟩ := q
          rw [hW] at ho
          obtain ⟨rfl, hk6⟩ := ho.no
          exact ⟨rfl, OutB.err (by rw [HU3.out, hW]) (HK5.out.trans hk6 hs5)⟩
        | ok q =>
          obtain ⟨c, ts3⟩ := q
          rw [hW] at ho
          obtain ⟨q3, rfl, hi6, hr6, hk6⟩ := ho.yes
          have HU4 : Hid (chooseS (f + 1) d a ts = .ok (.mk 9 [] 0 a [x, b, c], ts3)) := Lib.hid (by rw [HU3.out, hW])
          have HI6 := Lib.hid (hi6.alloc (.cells #[.pointer (some ⟨q3, 0, none⟩)] 93))
          have HX6 := Lib.hid ((HX5.out.keep hk6 (Nat.le_refl _) hR).alloc (.cells #[.pointer (some ⟨q3, 0, none⟩)] 93))
          have HR6 := Lib.hid (hr6.alloc (.cells #[.pointer (some ⟨q3, 0, none⟩)] 93))
          have HK6 := Lib.hid ((HK5.out.trans hk6 hs5).alloc (by have := hk6.size; omega) (.cells #[.pointer (some ⟨q3, 0, none⟩)] 93))
          clear hW hi6 hr6 hk6 HU3
          go_wp2_with fail
          refine (add_any X L w5.heap.size w6.heap.size 1 9 a [] 0 [x, b] [c] [q3] _ HX6.out (Blk.new w6 93 _) (KidsAt.one HI6.out) rfl (by omega) (by simp)).mono ?_
          rintro e w7 ⟨rfl, hx7, hk7⟩
          have HX7 := Lib.hid hx7
          have HR7 := Lib.hid (HR6.out.item hk7 hR hlt)
          have HK7 := Lib.hid (HK6.out.trans (hk7.item (B := X) (Nat.le_refl _) hlt) (Nat.le_refl _))
          clear hx7 hk7
          go_wp2_with fail
          go_end0
          exact OutB.ok HU4.out HK7.out HR7.out ⟨rfl, _, HX7.out⟩
end Go.Proofs.YtkkeocnnecegbaaGreatDoor
