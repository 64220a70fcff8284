/- The walk over call. By an AI agent. -/
import Derived.Test.YtkkeocnnecegbaaGreatDoorPwM
namespace Go.Proofs.YtkkeocnnecegbaaGreatDoor
open Go.RowKit

theorem enter211 (cap : Array Value) (W : World) : (callFunc 211 cap).run Tryz.prog W = .ok (.enter 211 cap) W := by kernel_rfl
theorem args_step (f d : Nat) (b : Bool) (acc : List Item) (ts : List Tok) : argsS (f + 1) d b acc ts = listStep (binS f 1 d) (argsS f d) b acc ts := by
  conv => lhs; unfold argsS
  unfold listStep
  split
  · rfl
  · cases (if b = true then Except.ok ts else takeT [44] ts) with
    | error e => rfl
    | ok ts1 =>
      simp only []
      cases binS f 1 d ts1 <;> rfl
theorem args_zero (d : Nat) (b : Bool) (acc : List Item) (ts : List Tok) : argsS 0 d b acc ts = .error outE := by unfold argsS; rfl

set_option maxRecDepth 100000 in
set_option maxHeartbeats 8000000 in
theorem call_noname (f R d X a : Nat) (ts : List Tok) (w : World) (h : RD w R ts d) (hx : Blk w X 160 #[.int .u8 (15 : Nat), .string ⟨([] : List UInt8).toArray⟩, .int .i64 0, .int .i64 a, .slice none 0 0, .slice none 0 0]) (_hR : R < X) (hk : nowKind ts ≠ 1) :
    Calls Tryz.prog 185 #[.pointer (some ⟨R, 0, none⟩), .pointer (some ⟨X, 0, none⟩)] w (OutB X w R d (callS f d a ts) (SPost X)) := by
  obtain ⟨t, r, rfl⟩ := h.fin.cons
  have HU : Hid (callS f d a (t :: r) = .error (t.at', 140)) := Lib.hid (by unfold callS nameT; rw [if_neg hk]; rfl)
  have hlX := hx.lt
  have hRw := h.lt.1
  have HR := Lib.hid ((h.alloc (.cells #[.pointer (some ⟨R, 0, none⟩)] 90)).alloc (.cells #[.pointer (some ⟨X, 0, none⟩)] 93)).drew
  have HK := Lib.hid (show t.kind ≠ 1 from hk)
  have cx : ((w.alloc (.cells #[.pointer (some ⟨R, 0, none⟩)] 90)).alloc (.cells #[.pointer (some ⟨X, 0, none⟩)] 93)).cell? ⟨w.heap.size + 1, 0, none⟩ = some (.pointer (some ⟨X, 0, none⟩)) := by
    have := (Blk.new (w.alloc (.cells #[.pointer (some ⟨R, 0, none⟩)] 90)) 93 #[.pointer (some ⟨X, 0, none⟩)]).cell 0
    simp
  have cr : ((w.alloc (.cells #[.pointer (some ⟨R, 0, none⟩)] 90)).alloc (.cells #[.pointer (some ⟨X, 0, none⟩)] 93)).cell? ⟨w.heap.size, 0, none⟩ = some (.pointer (some ⟨R, 0, none⟩)) := ((Blk.new w 90 #[.pointer (some ⟨R, 0, none⟩)]).alloc _).cell 0
  have HKW : Hid (KeepR X R w ((w.alloc (.cells #[.pointer (some ⟨R, 0, none⟩)] 90)).alloc (.cells #[.pointer (some ⟨X, 0, none⟩)] 93))) := Lib.hid (((KeepR.refl X R w).alloc (by omega) _).alloc (by simp; omega) _)
  clear h hx hk
  go_enter Tryz.func185, Tryz.ntmps185
  go_wp2_with fail
  generalize hWW : ((w.alloc (.cells #[.pointer (some ⟨R, 0, none⟩)] 90)).alloc (.cells #[.pointer (some ⟨X, 0, none⟩)] 93)) = W at *
  clear hWW
  refine wp_region_held_drew (S := fun w' => w'.cell? ⟨w.heap.size + 1, 0, none⟩ = some (.pointer (some ⟨X, 0, none⟩)) ∧ w'.cell? ⟨w.heap.size, 0, none⟩ = some (.pointer (some ⟨R, 0, none⟩))) (by kernel_rfl) ⟨cx, cr⟩ (fun hS => ?_)
  refine wpAnyH_take (i := 0) (v := .pointer (some ⟨X, 0, none⟩)) rfl (by kernel_rfl) (by kernel_rfl) (by kernel_rfl) (fun _ _ _ h => h) (Or.inl ⟨by rfl, ?_⟩) hS ?_
  · intro W hW
    go_simp
  simp only [Act.put, List.setIfInBounds_toArray]
  refine wpAnyH_take (i := 1) (v := .pointer (some ⟨R, 0, none⟩)) rfl (by kernel_rfl) (by kernel_rfl) (by kernel_rfl) (fun _ _ _ h => h) (Or.inl ⟨by rfl, ?_⟩) hS ?_
  · intro W hW
    go_simp
  simp only [Act.put]
  refine wpAnyH_ready (rs := [2]) (by kernel_rfl) (by simp) ?_
  refine AllReadyH.cons rfl (fun K hK => ?_) .nil
  go_simp
  refine (name_no HR.out HK.out).mono ?_
  rintro e w2 ⟨rfl, hb2⟩
  exact ⟨rfl, OutB.err HU.out ((HKW.out).trans (KeepR.drewL (.of hb2)) (by have := HKW.out.size; show X ≤ W.heap.size; omega))⟩

set_option maxRecDepth 100000 in
set_option maxHeartbeats 16000000 in
theorem call_name (f R d X a T : Nat) (t : Tok) (r : List Tok) (w : World) (h : RD w R (t :: r) d) (hx : Blk w X 160 #[.int .u8 (15 : Nat), .string ⟨([] : List UInt8).toArray⟩, .int .i64 0, .int .i64 a, .slice none 0 0, .slice none 0 0]) (hR : R < X) (hk : t.kind = 1) (hd : d ≤ 64) (hT : (t :: r).length ≤ T) (hT2 : T ≤ 90000) (hne : callS f d a (t :: r) ≠ .error outE) :
    Calls Tryz.prog 185 #[.pointer (some ⟨R, 0, none⟩), .pointer (some ⟨X, 0, none⟩)] w (OutB X w R d (callS f d a (t :: r)) (SPost X)) := by
  have hnm : nameT (t :: r) = .ok (t.text, r) := by unfold nameT; rw [if_pos (show nowKind (t :: r) = 1 from hk)]; rfl
  have HU : Hid (callS f d a (t :: r) = match takeT [61] r with
    | .error e => .error e
    | .ok ts2 => match nameT ts2 with
      | .error e => .error e
      | .ok (u, ts3) => match listR (argsS f d true []) ts3 with
        | .error e => .error e
        | .ok (l, ts6) => match takeT [59] ts6 with
          | .error e => .error e
          | .ok ts7 => .ok (.mk 15 t.text 0 a (.mk 16 u 0 (nowAt ts2) [] :: l), ts7)) := Lib.hid (by
    unfold callS listR
    rw [hnm]; simp only []
    cases takeT [61] r with
    | error e => rfl
    | ok ts2 =>
      simp only []
      cases nameT ts2 with
      | error e => rfl
      | ok v =>
        obtain ⟨u, ts3⟩ := v
        simp only []
        cases takeT [40] ts3 with
        | error e => rfl
        | ok ts4 =>
          simp only []
          cases argsS f d true [] ts4 with
          | error e => rfl
          | ok v =>
            obtain ⟨l, ts5⟩ := v
            simp only []
            cases takeT [41] ts5 with
            | error e => rfl
            | ok ts6 =>
              simp only []
              cases takeT [59] ts6 <;> rfl)
  have HT := Lib.hid (show r.length + 1 ≤ T by simpa using hT)
  have hlX := hx.lt
  have hRw := h.lt.1
  have HR := Lib.hid ((h.alloc (.cells #[.pointer (some ⟨R, 0, none⟩)] 90)).alloc (.cells #[.pointer (some ⟨X, 0, none⟩)] 93)).drew
  have HK := Lib.hid hk; have HNE := Lib.hid hne
  have HBX : Hid (Blk ((w.alloc (.cells #[.pointer (some ⟨R, 0, none⟩)] 90)).alloc (.cells #[.pointer (some ⟨X, 0, none⟩)] 93)) (w.heap.size + 1) 93 #[.pointer (some ⟨X, 0, none⟩)]) := Lib.hid (by
    have := Blk.new (w.alloc (.cells #[.pointer (some ⟨R, 0, none⟩)] 90)) 93 #[.pointer (some ⟨X, 0, none⟩)]
    simpa using this)
  have HBR : Hid (Blk ((w.alloc (.cells #[.pointer (some ⟨R, 0, none⟩)] 90)).alloc (.cells #[.pointer (some ⟨X, 0, none⟩)] 93)) w.heap.size 90 #[.pointer (some ⟨R, 0, none⟩)]) := Lib.hid ((Blk.new w 90 #[.pointer (some ⟨R, 0, none⟩)]).alloc _)
  have HXX := Lib.hid ((hx.alloc (.cells #[.pointer (some ⟨R, 0, none⟩)] 90)).alloc (.cells #[.pointer (some ⟨X, 0, none⟩)] 93))
  have HKW : Hid (KeepR X R w ((w.alloc (.cells #[.pointer (some ⟨R, 0, none⟩)] 90)).alloc (.cells #[.pointer (some ⟨X, 0, none⟩)] 93))) := Lib.hid (((KeepR.refl X R w).alloc (by omega) _).alloc (by simp; omega) _)
  have hsW : w.heap.size + 2 = ((w.alloc (.cells #[.pointer (some ⟨R, 0, none⟩)] 90)).alloc (.cells #[.pointer (some ⟨X, 0, none⟩)] 93)).heap.size := by simp
  clear h hx hk hnm hne hT
  go_enter Tryz.func185, Tryz.ntmps185
  go_wp2_with fail
  have HSW := Lib.hid hsW
  clear hsW
  generalize ((w.alloc (.cells #[.pointer (some ⟨R, 0, none⟩)] 90)).alloc (.cells #[.pointer (some ⟨X, 0, none⟩)] 93)) = W at *
  have cx : W.cell? ⟨w.heap.size + 1, 0, none⟩ = some (.pointer (some ⟨X, 0, none⟩)) := HBX.out.cell 0
  have cr : W.cell? ⟨w.heap.size, 0, none⟩ = some (.pointer (some ⟨R, 0, none⟩)) := HBR.out.cell 0
  have n1 : ¬ w.heap.size + 1 = X := by omega
  have n2 : ¬ X = w.heap.size := by omega
  have n3 : ¬ w.heap.size = X := by omega
  have n4 : ¬ X = w.heap.size + 1 := by omega
  have CALL : Hid (∀ W, RD W R (t :: r) d → Calls Tryz.prog 91 #[.pointer (some ⟨R, 0, none⟩)] W fun e w' => e = .returned (.string ⟨t.text.toArray⟩) ∧ RD w' R r d ∧ KeepR W.heap.size R W w') := Lib.hid (fun W hW => name_yes hW HK.out)
  have lW : w.heap.size + 1 < W.heap.size := HBX.out.lt
  have HBXd : Hid (Blk W.drew (w.heap.size + 1) 93 _) := HBX
  have HBRd : Hid (Blk W.drew w.heap.size 90 _) := HBR
  have HXXd : Hid (Blk W.drew X 160 #[.int .u8 (15 : Nat), .string ⟨([] : List UInt8).toArray⟩, .int .i64 0, .int .i64 a, .slice none 0 0, .slice none 0 0]) := HXX
  go_region_held3 (fun w' => w'.cell? ⟨w.heap.size + 1, 0, none⟩ = some (.pointer (some ⟨X, 0, none⟩)) ∧ w'.cell? ⟨w.heap.size, 0, none⟩ = some (.pointer (some ⟨R, 0, none⟩)))
    (first | go_keep)
    (first
      | (go_at_call 91; refine (CALL.out _ HR.out).mono ?_; rintro e w4 ⟨rfl, hr4, hk4⟩; have b1 := HBXd.out.kept hk4 (by exact lW) (by omega); have b2 := HBRd.out.kept hk4 (by show w.heap.size < W.heap.size; omega) (by omega); have b3 := HXXd.out.kept hk4 (by show X < W.heap.size; omega) (by omega); have e1 : w4.cell? ⟨w.heap.size, 0, none⟩ = some (.pointer (some ⟨R, 0, none⟩)) := b2.cell 0; have e2 : w4.cell? ⟨w.heap.size + 1, 0, none⟩ = some (.pointer (some ⟨X, 0, none⟩)) := b1.cell 0; have e6 : w4.cell? ⟨X, 1, none⟩ = some (.string ⟨([] : List UInt8).toArray⟩) := b3.cell 1; have e7 := b3.free 1; have HBX4 := Lib.hid b1; have HBR4 := Lib.hid b2; have HX4 := Lib.hid b3; have HR4 := Lib.hid hr4; have HK4 := Lib.hid (HKW.out.trans (KeepR.drewL hk4) (by show X ≤ W.heap.size; omega)); have hs4 : W.heap.size ≤ w4.heap.size := hk4.size; clear b1 b2 b3 hr4 hk4))
  have HB : Hid (AddB (w.heap.size + 1) w.heap.size X (w.heap.size + 2) R) := Lib.hid ⟨by omega, by omega, by omega, by omega, by omega, by omega, by omega⟩
  have HQ5 : Hid (AddQ (w.heap.size + 1) w.heap.size X (w.heap.size + 2) R 15 t.text 0 a [] (w4.setCell ⟨X, 1, none⟩ (.string ⟨t.text.toArray⟩))) := Lib.hid ⟨HBX4.out.far n1 1 _, HBR4.out.far n3 1 _, _, (OpenI.new HX4.out (by omega) (by have := HSW.out; omega)).text t.text⟩
  have HR5 := Lib.hid (HR4.out.set (p := ⟨X, 1, none⟩) hR (.string ⟨t.text.toArray⟩))
  have HK5 := Lib.hid (HK4.out.setCell (p := ⟨X, 1, none⟩) (Or.inr (Nat.le_refl _)) (.string ⟨t.text.toArray⟩))
  generalize w4.setCell ⟨X, 1, none⟩ (.string ⟨t.text.toArray⟩) = W5 at *
  clear e1 e2 e6 e7 cx cr HBX4 HBR4 HX4 HR4 HK4 HBX HBR HXX HBXd HBRd HXXd hs4
  have e1 : W5.cell? ⟨w.heap.size, 0, none⟩ = some (.pointer (some ⟨R, 0, none⟩)) := HQ5.out.br.cell 0
  have hs5 : X ≤ W5.heap.size := by have := HK5.out.size; omega
  obtain ⟨t1, r1, rfl⟩ := HR5.out.fin.cons
  cases hi : isT [61] (t1 :: r1)
  · have HI := Lib.hid hi; clear hi
    go_wp2_with fail
    refine (take_no (x := [61]) HR5.out HI.out).mono ?_; rintro e w6 ⟨rfl, hb6⟩
    go_wp2_with fail
    refine ⟨rfl, OutB.err ?_ (HK5.out.below hb6 hs5)⟩
    rw [HU.out]; unfold takeT; rw [HI.out]; rfl
  have HI := Lib.hid hi; clear hi
  have HU1 : Hid (callS f d a (t :: t1 :: r1) = match nameT r1 with
      | .error e => .error e
      | .ok (u, ts3) => match listR (argsS f d true []) ts3 with
        | .error e => .error e
        | .ok (l, ts6) => match takeT [59] ts6 with
          | .error e => .error e
          | .ok ts7 => .ok (.mk 15 t.text 0 a (.mk 16 u 0 (nowAt r1) [] :: l), ts7)) := Lib.hid (by rw [HU.out]; unfold takeT; rw [HI.out, if_pos rfl]; rfl)
  clear HU
  go_wp2_with fail
  refine (take_yes (x := [61]) HR5.out HI.out).mono ?_; rintro e w6 ⟨rfl, hr6, hk6⟩
  have hq6 := HQ5.out.keep HB.out hk6
  have HR6 := Lib.hid hr6
  have HK6 := Lib.hid (HK5.out.trans hk6 hs5)
  have hs6 : X ≤ w6.heap.size := Nat.le_trans hs5 hk6.size
  obtain ⟨hbx6, hbr6, C6, hit6⟩ := hq6
  have HIT6 := Lib.hid (hit6.grow hit6.top (Nat.le_refl _))
  have HBX6 := Lib.hid hbx6; have HBR6 := Lib.hid hbr6
  have hL6 : w.heap.size + 2 ≤ w6.heap.size := HIT6.out.le
  clear hr6 hk6 hbx6 hbr6 hit6 e1
  have e1 : w6.cell? ⟨w.heap.size, 0, none⟩ = some (.pointer (some ⟨R, 0, none⟩)) := HBR6.out.cell 0
  go_wp2_with fail
  refine (node_any R d 16 r1 _ HR6.out).mono ?_; rintro e w7 ⟨N, rfl, hN, hbN, hb7⟩
  have HN := Lib.hid hbN
  have HIT7 := Lib.hid (HIT6.out.keep (.of hb7) (Nat.le_refl _) hR)
  have HBX7 := Lib.hid (HBX6.out.below hb7)
  have HBR7 := Lib.hid (HBR6.out.below hb7)
  have HR7 := Lib.hid (HR6.out.below hb7 HR6.out.lt.1)
  have HK7 := Lib.hid (HK6.out.below hb7 hs6)
  have hs7 : w6.heap.size ≤ w7.heap.size := hb7.size
  clear hbN hb7 e1
  have e1 : w7.cell? ⟨w.heap.size, 0, none⟩ = some (.pointer (some ⟨R, 0, none⟩)) := HBR7.out.cell 0
  have lN := HN.out.lt
  obtain ⟨t2, r2, rfl⟩ := HR7.out.fin.cons
  by_cases hk2 : t2.kind = 1
  · have HK2 := Lib.hid hk2
    have HU2 : Hid (callS f d a (t :: t1 :: t2 :: r2) = match listR (argsS f d true []) r2 with
        | .error e => .error e
        | .ok (l, ts6) => match takeT [59] ts6 with
          | .error e => .error e
          | .ok ts7 => .ok (.mk 15 t.text 0 a ([.mk 16 t2.text 0 t2.at' []] ++ l), ts7)) := Lib.hid (by
      rw [HU1.out]
      unfold nameT
      rw [if_pos (show nowKind (t2 :: r2) = 1 from hk2)]
      rfl)
    clear hk2 HU1
    go_wp2_with fail
    refine (name_yes HR7.out HK2.out).mono ?_; rintro e w8 ⟨rfl, hr8, hk8⟩
    have hN8 := HN.out.kept hk8 lN (by omega)
    have g1 : w8.cell? ⟨N, 1, none⟩ = some (.string ⟨([] : List UInt8).toArray⟩) := hN8.cell 1
    have g2 := hN8.free 1
    have hs8 : w7.heap.size ≤ w8.heap.size := hk8.size
    have nR : ¬ w.heap.size = N := by omega
    have nX : ¬ w.heap.size + 1 = N := by omega
    have HIN := Lib.hid ((OpenI.fresh hN8).text t2.text)
    have it8 := HIT7.out.keep hk8 hs7 hR
    have HIT8 := Lib.hid (it8.keep ((KeepR.refl w6.heap.size R w8).setCell (p := ⟨N, 1, none⟩) (Or.inr hN) (.string ⟨t2.text.toArray⟩)) (Nat.le_refl _) hR)
    have HBX8 := Lib.hid ((HBX7.out.kept hk8 (by omega) (by omega)).far nX 1 (.string ⟨t2.text.toArray⟩))
    have HBR8 := Lib.hid ((HBR7.out.kept hk8 (by omega) (by omega)).far nR 1 (.string ⟨t2.text.toArray⟩))
    have HR8 := Lib.hid (hr8.set (p := ⟨N, 1, none⟩) (show R < N by omega) (.string ⟨t2.text.toArray⟩))
    have HK8 := Lib.hid ((HK7.out.trans hk8 (by omega)).setCell (p := ⟨N, 1, none⟩) (Or.inr (show X ≤ N by omega)) (.string ⟨t2.text.toArray⟩))
    clear hr8 hk8 hN8 it8
    go_upto_region 5 with fail
    have hz : w8.heap.size = (w8.setCell ⟨N, 1, none⟩ (.string ⟨t2.text.toArray⟩)).heap.size := by simp [World.setCell]
    have HZ := Lib.hid hz
    clear hz
    generalize w8.setCell ⟨N, 1, none⟩ (.string ⟨t2.text.toArray⟩) = W8 at *
    clear e1 g1 g2
    have e2 : W8.cell? ⟨w.heap.size + 1, 0, none⟩ = some (.pointer (some ⟨X, 0, none⟩)) := HBX8.out.cell 0
    have e1 : W8.cell? ⟨w.heap.size, 0, none⟩ = some (.pointer (some ⟨R, 0, none⟩)) := HBR8.out.cell 0
    have hs8' : w7.heap.size ≤ W8.heap.size := by have := HZ.out; omega
    have HKN : Hid (KidsAt (W8.alloc (.cells #[.pointer (some ⟨N, 0, none⟩)] 93)) (fun j => w6.heap.size ≤ j) [N] [.mk 16 t2.text 0 t2.at' []]) := Lib.hid (KidsAt.one ((HIN.out.close.alloc _).mono (fun j hj _ => by omega)))
    have HIT8a := Lib.hid (HIT8.out.alloc (.cells #[.pointer (some ⟨N, 0, none⟩)] 93))
    have HBX8a := Lib.hid (HBX8.out.alloc (.cells #[.pointer (some ⟨N, 0, none⟩)] 93))
    have HBR8a := Lib.hid (HBR8.out.alloc (.cells #[.pointer (some ⟨N, 0, none⟩)] 93))
    have HR8a := Lib.hid (HR8.out.alloc (.cells #[.pointer (some ⟨N, 0, none⟩)] 93))
    have HK8a := Lib.hid (HK8.out.alloc (by omega) (.cells #[.pointer (some ⟨N, 0, none⟩)] 93))
    go_wp2_with fail
    refine (add_any X (w.heap.size + 2) w6.heap.size W8.heap.size 1 15 a t.text 0 [] [.mk 16 t2.text 0 t2.at' []] [N] _ HIT8a.out (Blk.new W8 93 _) HKN.out rfl (by omega) (by simp)).mono ?_
    rintro e w9 ⟨rfl, hx9, hk9⟩
    have hXL : X < w.heap.size + 2 := by omega
    have HQ9 : Hid (AddQ (w.heap.size + 1) w.heap.size X (w.heap.size + 2) R 15 t.text 0 a ([.mk 16 t2.text 0 t2.at' []] ++ []) w9) := Lib.hid ⟨HBX8a.out.kept hk9 HB.out.x HB.out.xX, HBR8a.out.kept hk9 HB.out.r HB.out.rX, _, hx9⟩
    have HR9 := Lib.hid (HR8a.out.item hk9 hR hXL)
    have HK9 := Lib.hid (HK8a.out.trans (hk9.item (B := X) (Nat.le_refl _) hXL) (Nat.le_refl _))
    have hs9 : X ≤ w9.heap.size := by have := hx9.top; have := hx9.le; omega
    clear hx9 hk9 e1 e2
    have e1 : w9.cell? ⟨w.heap.size, 0, none⟩ = some (.pointer (some ⟨R, 0, none⟩)) := HQ9.out.br.cell 0
    go_wp2_with fail
    refine (list_any X R d 211 f T #[.pointer (some ⟨w.heap.size + 1, 0, none⟩), .pointer (some ⟨w.heap.size, 0, none⟩)] (fun g => binS g 1 d) (fun g => argsS g d) (fun l w' => AddQ (w.heap.size + 1) w.heap.size X (w.heap.size + 2) R 15 t.text 0 a ([.mk 16 t2.text 0 t2.at' []] ++ l) w') r2 w9 HR9.out hs9 (enter211 _) (fun b acc ts => args_zero d b acc ts) (fun g b acc ts => args_step g d b acc ts) (fun g ts x r he hx => (bin_ok he hx).2) ?hT HQ9.out (fun l wa wb ha hk => ha.keep HB.out hk) ?hF ?hN).mono ?_
    case hT => have := HT.out; simp only [List.length_cons] at this; omega
    case hF =>
      intro g ts1 wa acc hg hn hl hq hr hs
      have := clo211_any X _ _ X (w.heap.size + 2) R d 15 a t.text 0 ([.mk 16 t2.text 0 t2.at' []] ++ acc) (binS g 1 d ts1) ts1 wa hq HB.out hr (Nat.le_refl _) (by simp only [List.length_append, List.length_singleton]; omega) (fun W hW => bin_any g R d ts1 W hW hd hn)
      simpa only [List.append_assoc] using this
    case hN =>
      intro hc
      apply HNE.out
      rw [HU2.out, hc]
    rintro e w10 ⟨hk10, ho⟩
    have HK10 := Lib.hid (HK9.out.trans hk10 (Nat.le_refl _))
    have hs10 : X ≤ w10.heap.size := Nat.le_trans hs9 hk10.size
    cases hW : listR (argsS f d true []) r2 with
    | error q =>
      obtain ⟨p, er⟩ := q
      rw [hW] at ho
      subst ho
      exact ⟨rfl, OutB.err (by rw [HU2.out, hW]) HK10.out⟩
    | ok q =>
      obtain ⟨l, rr⟩ := q
      rw [hW] at ho
      obtain ⟨hr10, v, rfl, rfl, hq10⟩ := ho
      have HU3 : Hid (callS f d a (t :: t1 :: t2 :: r2) = match takeT [59] rr with
          | .error e => .error e
          | .ok ts7 => .ok (.mk 15 t.text 0 a ([.mk 16 t2.text 0 t2.at' []] ++ l), ts7)) := Lib.hid (by rw [HU2.out, hW])
      have HR10 := Lib.hid hr10
      have HQ10 := Lib.hid hq10
      clear hW hr10 hk10 hq10 e1
      have e1 : w10.cell? ⟨w.heap.size, 0, none⟩ = some (.pointer (some ⟨R, 0, none⟩)) := HQ10.out.br.cell 0
      obtain ⟨t3, r3, rfl⟩ := HR10.out.fin.cons
      cases hi : isT [59] (t3 :: r3)
      · have HI3 := Lib.hid hi; clear hi
        go_wp2_with fail
        refine (take_no (x := [59]) HR10.out HI3.out).mono ?_; rintro e w11 ⟨rfl, hb11⟩
        go_wp2_with fail
        refine ⟨rfl, OutB.err ?_ (HK10.out.below hb11 hs10)⟩
        rw [HU3.out]; unfold takeT; rw [HI3.out]; rfl
      · have HI3 := Lib.hid hi; clear hi
        go_wp2_with fail
        refine (take_yes (x := [59]) HR10.out HI3.out).mono ?_; rintro e w11 ⟨rfl, hr11, hk11⟩
        have HQ11 := Lib.hid (HQ10.out.keep HB.out hk11)
        have HR11 := Lib.hid hr11
        have HK11 := Lib.hid (HK10.out.trans hk11 hs10)
        clear hr11 hk11 e1
        go_wp2_with fail
        go_end0
        obtain ⟨C, hit⟩ := HQ11.out.it
        refine OutB.ok (x := .mk 15 t.text 0 a ([.mk 16 t2.text 0 t2.at' []] ++ l)) (ts := r3) ?_ HK11.out HR11.out ⟨rfl, hit.close⟩
        rw [HU3.out]; unfold takeT; rw [HI3.out]; rfl
  · have HK2 := Lib.hid hk2
    have HU2 : Hid (callS f d a (t :: t1 :: t2 :: r2) = .error (t2.at', 140)) := Lib.hid (by
      rw [HU1.out]
      unfold nameT
      rw [if_neg (show ¬ nowKind (t2 :: r2) = 1 from hk2)]
      rfl)
    clear hk2
    go_wp2_with fail
    refine (name_no HR7.out HK2.out).mono ?_; rintro e w8 ⟨rfl, hb8⟩
    go_wp2_with fail
    exact ⟨rfl, OutB.err HU2.out (HK7.out.below hb8 (by omega))⟩
end Go.Proofs.YtkkeocnnecegbaaGreatDoor
