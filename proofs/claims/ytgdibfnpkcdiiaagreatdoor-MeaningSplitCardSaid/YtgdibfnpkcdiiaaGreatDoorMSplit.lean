/- The law MeaningSplit over any program made by hand. By an AI agent. -/
import Derived.Test.YtgdibfnpkcdiiaaGreatDoorME
import Derived.Test.YtgdibfnpkcdiiaaGreatDoorEwS
namespace Go.Proofs.YtgdibfnpkcdiiaaGreatDoor
open Go.RowKit

set_option maxRecDepth 100000 in
set_option maxHeartbeats 32000000 in
theorem split_any (g : PrG) (w : World) (hg : PrR w g) (ok : PrOk g.p) (I : Option Addr) (ci : Nat) (inp : List Int) (hin : IntsV w (.slice I inp.length ci) inp) (h64 : ∀ n ∈ inp, I64 n) (c d : Nat) (hc : c < 256) (hd : d < 256) :
    Calls Tryz.prog 7 #[prV g, .slice I inp.length ci, .int .u8 c, .int .u8 d] w fun e w' => e = .returned (.bool true) ∧ Below w.heap.size w w' := by
  obtain ⟨p, av, fv, l⟩ := g
  have HG := Lib.hid hg
  obtain ⟨⟨A, ca, hav, _, _⟩, ⟨F, cf, hfv, _, _⟩, _⟩ := hg
  dsimp only at hav hfv ok
  subst hav; subst hfv
  have FEW := Lib.hid (fun W (hW : Below w.heap.size w W) => fewv_any _ W (HG.out.below hW))
  have BAD := Lib.hid (fun (hs : PrS p) (rt : rightW p = false) W (hW : Below w.heap.size w W) => new_bad _ W (HG.out.below hW) hs rt (.slice I inp.length ci))
  have NEW := Lib.hid (fun (rt : rightW p = true) (hil : inp.length ≤ 1000) W (hW : Below w.heap.size w W) => new_at w _ W (HG.out.below hW) ok rt I ci inp (hin.below hW) hil h64 hW.size)
  unfold prV at FEW BAD NEW ⊢
  dsimp only at FEW BAD NEW ⊢
  obtain ⟨na, hna⟩ : ∃ n, n = p.arrays.length := ⟨_, rfl⟩
  obtain ⟨nl, hnl⟩ : ∃ n, n = l.length := ⟨_, rfl⟩
  obtain ⟨ni, hni⟩ : ∃ n, n = inp.length := ⟨_, rfl⟩
  rw [← hna, ← hnl] at FEW
  rw [← hna, ← hnl, ← hni] at BAD NEW ⊢
  have OK := Lib.hid ok
  clear HG hna hnl hni hin h64 ok
  go_enter Tryz.func7, Tryz.ntmps7
  go_upto_region 1 with fail
  obtain ⟨W1, hW1⟩ : ∃ W1, W1 = w.alloc (.cells #[.slice A na ca, .slice F nl cf, .int .i64 p.main] 25) := ⟨_, rfl⟩
  obtain ⟨px, hpx⟩ : ∃ b, b = w.heap.size := ⟨_, rfl⟩
  have HB1 := Lib.hid (show Below w.heap.size w W1 by rw [hW1]; exact (Below.refl _ _).alloc (Nat.le_refl _) _)
  have PX := Lib.hid (show Blk W1 px 25 #[.slice A na ca, .slice F nl cf, .int .i64 p.main] by rw [hW1, hpx]; exact Blk.new w 25 _)
  rw [← hW1, ← hpx]
  clear hW1 hpx
  have c0 := PX.out.cell 0; have c1 := PX.out.cell 1; have c2 := PX.out.cell 2
  have lb := PX.out.lt
  go_wp2_with fail
  refine (FEW.out W1 HB1.out).mono ?_
  rintro e w2 ⟨rfl, hb2⟩
  have HB2 := Lib.hid (below_next HB1.out hb2)
  have PX2 := Lib.hid (PX.out.below hb2)
  clear hb2 c0 c1 c2 lb FEW
  cases hf : fewV p with
  | false =>
    go_wp2_with fail
    refine (Ev.works_22_any _).mono ?_
    rintro e w3 ⟨rfl, hb3⟩
    have HF := Lib.hid (below_next HB2.out hb3)
    clear hb3
    go_wp2_with fail
    go_ret
    exact ⟨rfl, HF.out⟩
  | true =>
    have hs := fewv_prs OK.out hf
    have HS := Lib.hid hs
    clear hf hs
    by_cases h30 : ni ≤ 30
    case neg =>
      have q30 : decide ((30 : Int) < (ni : Int)) = true := decide_eq_true (by omega)
      go_wp2_with fail
      refine (Ev.works_22_any _).mono ?_
      rintro e w3 ⟨rfl, hb3⟩
      have HF := Lib.hid (below_next HB2.out hb3)
      clear hb3
      go_wp2_with fail
      go_ret
      exact ⟨rfl, HF.out⟩
    case pos =>
      have q30 : decide ((30 : Int) < (ni : Int)) = false := decide_eq_false (by omega)
      have c0 := PX2.out.cell 0; have c1 := PX2.out.cell 1; have c2 := PX2.out.cell 2
      have lb := PX2.out.lt
      cases rt : rightW p with
      | false =>
        have BADH := Lib.hid (BAD.out HS.out rt)
        clear BAD rt NEW
        go_wp2_with fail
        refine (BADH.out w2 HB2.out).mono ?_
        rintro e w3 ⟨rfl, hb3⟩
        have HB3 := Lib.hid (below_next HB2.out hb3)
        have PX3 := Lib.hid (PX2.out.below hb3)
        clear hb3 c0 c1 c2 lb q30
        have c0 := PX3.out.cell 0; have c1 := PX3.out.cell 1; have c2 := PX3.out.cell 2
        have lb := PX3.out.lt
        go_wp2_with fail
        refine (BADH.out w3 HB3.out).mono ?_
        rintro e w4 ⟨rfl, hb4⟩
        have HB4 := Lib.hid (below_next HB3.out hb4)
        clear hb4 c0 c1 c2 lb
        go_wp2_with fail
        refine (Ev.works_22_any _).mono ?_
        rintro e w5 ⟨rfl, hb5⟩
        have HF := Lib.hid (below_next HB4.out hb5)
        clear hb5
        go_wp2_with fail
        go_ret
        exact ⟨rfl, HF.out⟩
      | true =>
        have NEWH := Lib.hid (NEW.out rt (by omega))
        have RT := Lib.hid rt
        clear BAD rt NEW
        go_wp2_with fail
        refine (NEWH.out w2 HB2.out).mono ?_
        rintro e w3 ⟨r1, ρ1, rfl, ha3, hb3, hd1⟩
        have HB3 := Lib.hid (below_next HB2.out hb3)
        have PX3 := Lib.hid (PX2.out.below hb3)
        have A3 := Lib.hid ha3
        clear hb3 c0 c1 c2 lb q30 ha3 hd1
        have c0 := PX3.out.cell 0; have c1 := PX3.out.cell 1; have c2 := PX3.out.cell 2
        have lb := PX3.out.lt
        go_wp2_with fail
        refine (NEWH.out w3 HB3.out).mono ?_
        rintro e w4 ⟨r2, ρ2, rfl, ha4, hb4, hd2⟩
        have HB4 := Lib.hid (below_next HB3.out hb4)
        have HD := Lib.hid (show ∀ k, ρ1 k = none ∨ ρ2 k = none from fun k => by
          cases e1 : ρ1 k with
          | none => exact Or.inl rfl
          | some q =>
            cases e2 : ρ2 k with
            | none => exact Or.inr rfl
            | some q2 => have := (A3.out.dom k q e1).2; have := hd2 k q2 e2; omega)
        have A4 := Lib.hid (A3.out.below hb4)
        have B4 := Lib.hid ha4
        obtain ⟨s0, hs0⟩ : ∃ s, s = newM p inp := ⟨_, rfl⟩
        rw [← hs0] at A4 B4
        have HS0 := Lib.hid (show s0.steps = 0 by rw [hs0]; rfl)
        clear hb4 c0 c1 c2 lb ha4 hd2 A3 PX2 PX3 PX NEWH hs0
        have GO1 := Lib.hid (A4.out.go (c : Int) (by omega) (by have := run_steps doW (p := p) ((c : Int).toNat) (s := s0); have := HS0.out; omega))
        have wc : IntKind.i64.wrap (c : Int) = (c : Int) := IntWalk.i64_in _ (by omega)
        have wd : IntKind.i64.wrap (d : Int) = (d : Int) := IntWalk.i64_in _ (by omega)
        go_wp2_with fail
        refine GO1.out.mono ?_
        rintro e w5 ⟨rfl, ρ3, ha5, hk5⟩
        rw [Int.toNat_natCast] at ha5 ⊢
        obtain ⟨s1, hs1⟩ : ∃ s, s = runM doW p c s0 := ⟨_, rfl⟩
        obtain ⟨n1, hn1⟩ : ∃ n, n = cntM doW p c s0 := ⟨_, rfl⟩
        rw [← hs1] at ha5
        rw [← hn1]
        obtain ⟨hb5, hd5⟩ := B4.out.other hk5 (fun k => (HD.out k).symm)
        have A5 := Lib.hid ha5; have B5 := Lib.hid hb5; have HD5 := Lib.hid hd5; have HB5 := Lib.hid (A4.out.kp hk5 HB4.out)
        have HS1 := Lib.hid hs1; have HN1 := Lib.hid hn1
        have HL1 := Lib.hid (show n1 ≤ 255 by rw [hn1]; have := cnt_le doW (p := p) c s0; omega)
        clear ha5 hb5 hd5 hk5 GO1 A4 B4 HD hs1 hn1
        have GO2 := Lib.hid (A5.out.go (d : Int) (by omega) (by have h1 := run_steps doW (p := p) ((d : Int).toNat) (s := s1); have h2 := run_steps doW (p := p) c (s := s0); rw [← HS1.out] at h2; have := HS0.out; omega))
        go_wp2_with fail
        refine GO2.out.mono ?_
        rintro e w6 ⟨rfl, ρ4, ha6, hk6⟩
        rw [Int.toNat_natCast] at ha6 ⊢
        obtain ⟨s2, hs2⟩ : ∃ s, s = runM doW p d s1 := ⟨_, rfl⟩
        obtain ⟨n2, hn2⟩ : ∃ n, n = cntM doW p d s1 := ⟨_, rfl⟩
        rw [← hs2] at ha6
        rw [← hn2]
        obtain ⟨hb6, hd6⟩ := B5.out.other hk6 HD5.out
        have A6 := Lib.hid ha6; have B6 := Lib.hid hb6; have HD6 := Lib.hid hd6; have HB6 := Lib.hid (A5.out.kp hk6 HB5.out)
        have HS2 := Lib.hid (show runM doW p (c + d) s0 = s2 by rw [run_add doW c d s0, ← HS1.out, hs2])
        have HN2 := Lib.hid (show cntM doW p (c + d) s0 = n1 + n2 by rw [cnt_add doW c d s0, ← HS1.out, HN1.out, hn2])
        have HL2 := Lib.hid (show n2 ≤ 255 by rw [hn2]; have := cnt_le doW (p := p) d s1; omega)
        clear ha6 hb6 hd6 hk6 GO2 A5 B5 HD5 hs2 hn2
        have wn : IntKind.i64.wrap ((n1 : Int) + (n2 : Int)) = ((n1 + n2 : Nat) : Int) := (IntWalk.i64_in _ (by have := HL1.out; have := HL2.out; omega)).trans (by omega)
        have wcd : IntKind.i64.wrap ((c : Int) + (d : Int)) = ((c + d : Nat) : Int) := (IntWalk.i64_in _ (by omega)).trans (by omega)
        obtain ⟨nn, hnn⟩ : ∃ n, n = n1 + n2 := ⟨_, rfl⟩
        obtain ⟨cd, hcd⟩ : ∃ n, n = c + d := ⟨_, rfl⟩
        rw [← hnn] at wn HN2
        rw [← hcd] at wcd HN2 HS2
        have HCD := Lib.hid hcd; have HNN := Lib.hid hnn
        clear hnn hcd
        have GO3 := Lib.hid (B6.out.go (cd : Int) (by have := HCD.out; omega) (by have h1 := run_steps doW (p := p) ((cd : Int).toNat) (s := s0); have := HS0.out; have := HCD.out; omega))
        go_wp2_with fail
        refine GO3.out.mono ?_
        rintro e w7 ⟨rfl, ρ5, hb7, hk7⟩
        rw [Int.toNat_natCast, HS2.out] at hb7
        rw [Int.toNat_natCast, HN2.out]
        obtain ⟨ha7, hd7⟩ := A6.out.other hk7 (fun k => (HD6.out k).symm)
        have A7 := Lib.hid ha7; have B7 := Lib.hid hb7; have HD7 := Lib.hid hd7; have HB7 := Lib.hid (B6.out.kp hk7 HB6.out)
        have HST := Lib.hid (show s2.steps = nn by have := steps_cnt (right_good RT.out) doW_i64 A6.out.num cd s0 B6.out.ok; rw [HS2.out, HN2.out, HS0.out] at this; omega)
        clear ha7 hb7 hd7 hk7 GO3 A6 B6 HD6 HS2 HN2 wn wcd wc wd
        have hne : ((nn : Int) != (nn : Int)) = false := by simp
        obtain ⟨en, hen⟩ : ∃ b, b = s2.ended := ⟨_, rfl⟩
        obtain ⟨dp, hdp⟩ : ∃ b, b = s2.base.length + 1 := ⟨_, rfl⟩
        obtain ⟨ne, hne2⟩ : ∃ b, b = s2.evs.length := ⟨_, rfl⟩
        obtain ⟨tf, htf⟩ : ∃ b, b = s2.top.f := ⟨_, rfl⟩
        obtain ⟨ti, hti⟩ : ∃ b, b = s2.top.i := ⟨_, rfl⟩
        have hnb : ne ≤ 10000 := by have := A7.out.ok.many.1; have := A7.out.few; omega
        have CE := Lib.hid (fun W ρ r (h : At w W ρ r p s2) => h.ended)
        have CD := Lib.hid (fun W ρ r (h : At w W ρ r p s2) => h.depth)
        have CA := Lib.hid (fun W ρ r (h : At w W ρ r p s2) => h.at_)
        have CV := Lib.hid (fun W ρ r (h : At w W ρ r p s2) => h.events)
        rw [← hen] at CE; rw [← hdp] at CD; rw [← htf, ← hti] at CA; rw [← hne2] at CV
        have HEN := Lib.hid hen; have HNE2 := Lib.hid hne2
        clear hen hdp hne2 htf hti
        have qen : (en != en) = false := by simp
        go_wp2_with fail
        refine (CE.out w7 ρ4 r1 A7.out).mono ?_
        rintro e w8 ⟨rfl, hb⟩
        have A8 := Lib.hid (A7.out.below hb); have B8 := Lib.hid (B7.out.below hb); have HB8 := Lib.hid (below_next HB7.out hb)
        clear hb A7 B7 HB7
        go_wp2_with fail
        refine (CE.out w8 ρ5 r2 B8.out).mono ?_
        rintro e w9 ⟨rfl, hb⟩
        have A9 := Lib.hid (A8.out.below hb); have B9 := Lib.hid (B8.out.below hb); have HB9 := Lib.hid (below_next HB8.out hb)
        clear hb A8 B8 HB8
        go_wp2_with fail
        refine (CD.out w9 ρ4 r1 A9.out).mono ?_
        rintro e w10 ⟨rfl, hb⟩
        have A10 := Lib.hid (A9.out.below hb); have B10 := Lib.hid (B9.out.below hb); have HB10 := Lib.hid (below_next HB9.out hb)
        clear hb A9 B9 HB9
        go_wp2_with fail
        refine (CD.out w10 ρ5 r2 B10.out).mono ?_
        rintro e w11 ⟨rfl, hb⟩
        have A11 := Lib.hid (A10.out.below hb); have B11 := Lib.hid (B10.out.below hb); have HB11 := Lib.hid (below_next HB10.out hb)
        clear hb A10 B10 HB10
        go_wp2_with fail
        refine (CV.out w11 ρ4 r1 A11.out).mono ?_
        rintro e w12 ⟨EA, ca1, rfl, hev, hb⟩
        have A12 := Lib.hid (A11.out.below hb); have B12 := Lib.hid (B11.out.below hb); have HB12 := Lib.hid (below_next HB11.out hb); have EV1 := Lib.hid hev
        clear hb hev A11 B11 HB11
        go_wp2_with fail
        refine (CV.out w12 ρ5 r2 B12.out).mono ?_
        rintro e w13 ⟨EB, cb1, rfl, hev, hb⟩
        have A13 := Lib.hid (A12.out.below hb); have B13 := Lib.hid (B12.out.below hb); have HB13 := Lib.hid (below_next HB12.out hb); have EV2 := Lib.hid hev; have EV1 := Lib.hid (EV1.out.below hb)
        clear hb hev A12 B12 HB12
        have SM := Lib.hid (evsame_any (.slice EA ne ca1) (.slice EB ne cb1) s2.evs s2.evs w13 EV1.out EV2.out (by rw [← HNE2.out]; omega))
        rw [decide_eq_true rfl] at SM
        go_wp2_with fail
        refine (SM.out).mono ?_
        rintro e w14 ⟨rfl, hb⟩
        have A14 := Lib.hid (A13.out.below hb); have B14 := Lib.hid (B13.out.below hb); have HB14 := Lib.hid (below_next HB13.out hb)
        clear hb A13 B13 HB13
        go_wp2_with fail
        refine (CA.out w14 ρ4 r1 A14.out).mono ?_
        rintro e w15 ⟨rfl, hb⟩
        have A15 := Lib.hid (A14.out.below hb); have B15 := Lib.hid (B14.out.below hb); have HB15 := Lib.hid (below_next HB14.out hb)
        clear hb A14 B14 HB14
        go_wp2_with fail
        refine (CA.out w15 ρ5 r2 B15.out).mono ?_
        rintro e w16 ⟨rfl, hb⟩
        have A16 := Lib.hid (A15.out.below hb); have B16 := Lib.hid (B15.out.below hb); have HB16 := Lib.hid (below_next HB15.out hb)
        clear hb A15 B15 HB15
        go_wp2_with fail
        have GO4 := Lib.hid (A16.out.go (-1) (by omega) (by have := A16.out.few; exact this))
        have hm1 : ((-1 : Int)).toNat = 0 := by decide
        rw [hm1] at GO4
        refine GO4.out.mono ?_
        rintro e w17 ⟨rfl, ρ6, ha, hk⟩
        have A17 := Lib.hid (show At w w17 ρ6 r1 p s2 from ha); have HB17 := Lib.hid (A16.out.kp hk HB16.out)
        have hz : cntM doW p 0 s2 = 0 := rfl
        rw [hz]
        clear ha hk A16 B16 HB16 GO4 hm1 hz
        go_wp2_with fail
        have CE2 := Lib.hid (CE.out w17 ρ6 r1 A17.out)
        cases en with
        | false =>
          refine CE2.out.mono ?_
          rintro e w18 ⟨rfl, hb⟩
          have HB18 := Lib.hid (below_next HB17.out hb)
          clear hb A17 HB17 CE2
          go_wp2_with fail
          refine (Ev.works_22_any _).mono ?_
          rintro e w99 ⟨rfl, hb99⟩
          have HF := Lib.hid (below_next HB18.out hb99)
          clear hb99
          go_wp2_with fail
          go_ret
          exact ⟨rfl, HF.out⟩
        | true =>
          refine CE2.out.mono ?_
          rintro e w18 ⟨rfl, hb⟩
          have A18 := Lib.hid (A17.out.below hb); have HB18 := Lib.hid (below_next HB17.out hb)
          clear hb A17 HB17 CE2
          go_wp2_with fail
          refine (A18.out.step_end HEN.out.symm).mono ?_
          rintro e w19 ⟨rfl, hb⟩
          have A19 := Lib.hid (A18.out.below hb); have HB19 := Lib.hid (below_next HB18.out hb)
          clear hb A18 HB18
          have GO5 := Lib.hid (A19.out.go 5 (by omega) (by
            have h5 : ((5 : Int)).toNat = 5 := by decide
            rw [h5, run_ended doW 5 HEN.out.symm]; exact A19.out.few))
          have h5 : ((5 : Int)).toNat = 5 := by decide
          rw [h5, run_ended doW 5 HEN.out.symm, cnt_ended doW 5 HEN.out.symm] at GO5
          clear h5
          go_wp2_with fail
          refine GO5.out.mono ?_
          rintro e w20 ⟨rfl, ρ7, ha, hk⟩
          have A20 := Lib.hid ha; have HB20 := Lib.hid (A19.out.kp hk HB19.out)
          clear ha hk A19 HB19 GO5
          have ST := Lib.hid A20.out.steps
          rw [HST.out] at ST
          go_wp2_with fail
          refine ST.out.mono ?_
          rintro e w21 ⟨rfl, hb⟩
          have HB21 := Lib.hid (below_next HB20.out hb)
          clear hb A20 HB20 ST
          go_wp2_with fail
          refine (Ev.works_22_any _).mono ?_
          rintro e w99 ⟨rfl, hb99⟩
          have HF := Lib.hid (below_next HB21.out hb99)
          clear hb99
          go_wp2_with fail
          go_ret
          exact ⟨rfl, HF.out⟩
end Go.Proofs.YtgdibfnpkcdiiaaGreatDoor
