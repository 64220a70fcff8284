/- The law MeaningInput over any program made by hand. By an AI agent. -/
import Derived.Test.YtgdibfnpkcdiiaaGreatDoorME
import Derived.Test.YtgdibfnpkcdiiaaGreatDoorEwS
import Derived.Laws.AppendOwnNone
namespace Go.Proofs.YtgdibfnpkcdiiaaGreatDoor
open Go.RowKit

/-- 'append(l, more...)': more may be nil. -/
theorem wpList_append_cellsM {P : Program} {w : World} {ops : Array Oper} {rest : List Oper} {o : Oper} {a : Act} {Q : Exit → Act → World → Prop} (hgd : o.guard = none) (s x : Operand) (t : TypeId)
    (ho : o.op = .call { callee := .builtin .append, args := #[s, x], argTypes := #[t, t] })
    (base : Nat) (e : TypeId) (i : TypeInfo) (z : Value) (size bytes : Nat) (ht : P.underlying t = some (.slice e)) (hi : P.info? e = some i) (hz : i.zero = some z)
    (hsize : i.size = size) (hby : i.bytes = bytes) (hzs : z.cells.size = size) (hsz : 0 < size)
    (v : Value) (n : Nat) (xs : List Value) (hs : a.eval s = v) (hown : w.ownsRow base e size v n xs)
    (A : Option Addr) (m c : Nat) (news : List Value) (hx : a.eval x = .slice A m c) (hc : CellsV w A m size news) (hA : A = none → c = 0)
    (h63 : n + m ≤ maxLen) (hbytes : (n + m) * bytes ≤ 140737488355328) (hbase : base ≤ w.heap.size)
    (h : ∀ v' w', w'.ownsRow base e size v' (n + m) (xs ++ news) → w.grownBy w' v.ownBlock → wpList P ops Q rest (a.put o.dst v') w') : wpList P ops Q (o :: rest) a w := by
  cases A with
  | none =>
    have h0 := hc.nil rfl
    have h1 := hA rfl
    subst h0; subst h1
    have hn : news = [] := List.eq_nil_of_length_eq_zero (by rw [hc.len, Nat.zero_mul])
    subst hn
    exact wpList_append_own_none hgd s x t ho base e i size ht hi v n xs hs hown hx (h v w (by simpa using hown) (World.grownBy.refl w _))
  | some ad =>
    exact wpList_append_own w hgd s x t ho base e i z size bytes ht hi hz hsize hby hzs hsz v n xs hs hown ad m c news hx hc.len (hc.at_ ad rfl) hc.one h63 hbytes hbase fun v' w' h1 h2 _ => h v' w' h1 h2
theorem reads_take (l : List (Nat × Int)) (i : Nat) (e : Nat × Int) (h : l[i]? = some e) : readsM (l.take (i + 1)) = readsM (l.take i) + (if e.1 = 1 then 1 else 0) := by
  rw [List.take_add_one, h, Option.toList_some, reads_app]
  unfold readsM
  by_cases h1 : e.1 = 1 <;> simp [h1]
set_option maxRecDepth 100000 in
set_option maxHeartbeats 64000000 in
theorem input_any (g : PrG) (w : World) (hg : PrR w g) (ok : PrOk g.p) (I : Option Addr) (ci : Nat) (inp : List Int) (hin : IntsV w (.slice I inp.length ci) inp) (h64 : ∀ n ∈ inp, I64 n) (hI : I = none → ci = 0)
    (J : Option Addr) (cj : Nat) (more : List Int) (hmo : IntsV w (.slice J more.length cj) more) (h64m : ∀ n ∈ more, I64 n) (hJ : J = none → cj = 0) (c : Nat) (hc : c < 256) :
    Calls Tryz.prog 6 #[prV g, .slice I inp.length ci, .slice J more.length cj, .int .u8 c] w fun e w' => e = .returned (.bool true) ∧ Below w.heap.size w w' := by
  obtain ⟨p, av, fv, l⟩ := g
  have HG := Lib.hid hg
  obtain ⟨⟨A, ca, hav, _, _⟩, ⟨F, cf, hfv, _, _⟩, _⟩ := hg
  dsimp only at hav hfv ok
  subst hav; subst hfv
  have FEW := Lib.hid (fun W (hW : Below w.heap.size w W) => fewv_any _ W (HG.out.below hW))
  have BAD := Lib.hid (fun (hs : PrS p) (rt : rightW p = false) iv W (hW : Below w.heap.size w W) => new_bad _ W (HG.out.below hW) hs rt iv)
  have NEW := Lib.hid (fun (rt : rightW p = true) (K : Option Addr) (ck : Nat) (ks : List Int) (hks : ks.length ≤ 1000) (h64 : ∀ n ∈ ks, I64 n) W (hW : Below w.heap.size w W) (hin : IntsV W (.slice K ks.length ck) ks) => new_at w _ W (HG.out.below hW) ok rt K ck ks hin hks h64 hW.size)
  unfold prV at FEW BAD NEW ⊢
  dsimp only at FEW BAD NEW ⊢
  obtain ⟨na, hna⟩ : ∃ n, n = p.arrays.length := ⟨_, rfl⟩
  obtain ⟨nl, hnl⟩ : ∃ n, n = l.length := ⟨_, rfl⟩
  obtain ⟨ni, hni⟩ : ∃ n, n = inp.length := ⟨_, rfl⟩
  obtain ⟨nj, hnj⟩ : ∃ n, n = more.length := ⟨_, rfl⟩
  rw [← hna, ← hnl] at FEW BAD NEW ⊢
  rw [← hni, ← hnj]
  rw [← hni] at hin; rw [← hnj] at hmo
  have OK := Lib.hid ok; have HIN := Lib.hid hin; have HMO := Lib.hid hmo; have H64 := Lib.hid h64; have H64M := Lib.hid h64m; have HI := Lib.hid hI; have HJ := Lib.hid hJ; have HNI := Lib.hid hni; have HNJ := Lib.hid hnj
  clear HG hna hnl hni hnj hin hmo h64 h64m ok hI hJ
  go_enter Tryz.func6, Tryz.ntmps6
  go_upto_region 1 with fail
  obtain ⟨W1, hW1⟩ : ∃ W1, W1 = w.alloc (.cells #[.slice A na ca, .slice F nl cf, .int .i64 p.main] 25) := ⟨_, rfl⟩
  obtain ⟨px, hpx⟩ : ∃ b, b = w.heap.size := ⟨_, rfl⟩
  have HB1 := Lib.hid (show Below w.heap.size w W1 by rw [hW1]; exact (Below.refl _ _).alloc (Nat.le_refl _) _)
  have PX := Lib.hid (show Blk W1 px 25 #[.slice A na ca, .slice F nl cf, .int .i64 p.main] by rw [hW1, hpx]; exact Blk.new w 25 _)
  rw [← hW1, ← hpx]
  clear hW1 hpx
  have c0 := PX.out.cell 0; have c1 := PX.out.cell 1; have c2 := PX.out.cell 2
  have lb := PX.out.lt
  go_wp2_with fail
  refine (FEW.out W1 HB1.out).mono ?_
  rintro e w2 ⟨rfl, hb2⟩
  have HB2 := Lib.hid (below_next HB1.out hb2)
  have PX2 := Lib.hid (PX.out.below hb2)
  clear hb2 c0 c1 c2 lb FEW
  cases hf : fewV p with
  | false =>
    go_wp2_with fail
    refine (Ev.works_22_any _).mono ?_
    rintro e w99 ⟨rfl, hb99⟩
    have HF := Lib.hid (below_next HB2.out hb99)
    clear hb99
    go_wp2_with fail
    go_ret
    exact ⟨rfl, HF.out⟩
  | true =>
    have hs := fewv_prs OK.out hf
    have HS := Lib.hid hs
    clear hf hs
    by_cases h30 : ni ≤ 30
    case neg =>
      have q30 : decide ((30 : Int) < (ni : Int)) = true := decide_eq_true (by omega)
      go_wp2_with fail
      refine (Ev.works_22_any _).mono ?_
      rintro e w99 ⟨rfl, hb99⟩
      have HF := Lib.hid (below_next HB2.out hb99)
      clear hb99
      go_wp2_with fail
      go_ret
      exact ⟨rfl, HF.out⟩
    case pos =>
      have q30 : decide ((30 : Int) < (ni : Int)) = false := decide_eq_false (by omega)
      by_cases h31 : nj ≤ 30
      case neg =>
        have q31 : decide ((30 : Int) < (nj : Int)) = true := decide_eq_true (by omega)
        go_wp2_with fail
        refine (Ev.works_22_any _).mono ?_
        rintro e w99 ⟨rfl, hb99⟩
        have HF := Lib.hid (below_next HB2.out hb99)
        clear hb99
        go_wp2_with fail
        go_ret
        exact ⟨rfl, HF.out⟩
      case pos =>
        have q31 : decide ((30 : Int) < (nj : Int)) = false := decide_eq_false (by omega)
        have CI := Lib.hid (ints_cells (HIN.out.below HB2.out) HNI.out)
        have CJ := Lib.hid (ints_cells (HMO.out.below HB2.out) HNJ.out)
        have HNI30 := Lib.hid h30; have HNJ30 := Lib.hid h31
        clear h30 h31
        go_upto_region 4 with fail
        obtain ⟨i0, hi0, hz0, hz1, hz2⟩ := info_parts info2M
        have hib : ni ≤ 30 := HNI30.out
        have hjb : nj ≤ 30 := HNJ30.out
        go_wp2_with (at_builtin; refine wpList_append_cellsM rfl _ _ 40 rfl w2.heap.size 2 i0 (.int .i64 0) 1 8 Tryz.underlying40 hi0 hz0 hz1 hz2 rfl (by decide) _ 0 [] rfl (World.ownsRow_nil w2 w2.heap.size 2 1) I ni ci _ rfl CI.out HI.out (by unfold maxLen; omega) (by omega) (Nat.le_refl _) ?_)
        intro v3 w3 hown hgrow
        have hb3 : Below w2.heap.size w2 w3 := (Below.refl _ _).grown hgrow (Nat.le_refl _) (fun k e => by cases e)
        obtain ⟨V3, d3, hv3⟩ := own_formM hown
        subst hv3
        have O3 := Lib.hid hown; have HB3 := Lib.hid (below_next HB2.out hb3); have PX3 := Lib.hid (PX2.out.below hb3); have CJ3 := Lib.hid (CJ.out.below hb3); have S3 := Lib.hid hb3.size
        clear hown hgrow hb3
        go_wp2_with (at_builtin; refine wpList_append_cellsM rfl _ _ 40 rfl w2.heap.size 2 i0 (.int .i64 0) 1 8 Tryz.underlying40 hi0 hz0 hz1 hz2 rfl (by decide) _ ni _ rfl O3.out J nj cj _ rfl CJ3.out HJ.out (by unfold maxLen; omega) (by omega) S3.out ?_)
        intro v4 w4 hown hgrow
        have hb4 : Below w2.heap.size w3 w4 := (Below.refl _ _).grown hgrow S3.out (fun k e => (O3.out.lt k e).1)
        obtain ⟨V4, d4, hv4⟩ := own_formM hown
        subst hv4
        obtain ⟨nk, hnk⟩ : ∃ n, n = ni + nj := ⟨_, rfl⟩
        rw [← hnk] at hown ⊢
        have happ : inp.flatMap intCM ++ more.flatMap intCM = (inp ++ more).flatMap intCM := by rw [List.flatMap_append]
        rw [happ] at hown
        have HNK := Lib.hid (show nk = (inp ++ more).length by rw [List.length_append, hnk, HNI.out, HNJ.out])
        have LONG := Lib.hid (ints_ownE hown HNK.out)
        have HB4 := Lib.hid (show Below w.heap.size w w4 from HB3.out.trans (hb4.mono HB2.out.size))
        have PX4 := Lib.hid (show Blk w4 px 25 #[.slice A na ca, .slice F nl cf, .int .i64 p.main] from (hb4.block px PX2.out.lt).trans PX3.out)
        have IN4 := Lib.hid (HIN.out.below HB4.out)
        have HNKB := Lib.hid (show nk ≤ 60 by omega)
        clear hown hgrow hb4 hnk happ O3 PX2 PX3 CJ3 S3 CI CJ hib hjb hi0 hz0 hz1 hz2 q30 q31
        go_upto_region 6 with fail
        have c0 := PX4.out.cell 0; have c1 := PX4.out.cell 1; have c2 := PX4.out.cell 2
        have lb := PX4.out.lt
        cases rt : rightW p with
        | false =>
          have BADH := Lib.hid (BAD.out HS.out rt)
          clear BAD rt NEW
          go_wp2_with fail
          refine (BADH.out _ w4 HB4.out).mono ?_
          rintro e w5 ⟨rfl, hb5⟩
          have HB5 := Lib.hid (below_next HB4.out hb5); have PX5 := Lib.hid (PX4.out.below hb5)
          clear hb5 c0 c1 c2 lb
          have c0 := PX5.out.cell 0; have c1 := PX5.out.cell 1; have c2 := PX5.out.cell 2
          have lb := PX5.out.lt
          go_wp2_with fail
          refine (BADH.out _ w5 HB5.out).mono ?_
          rintro e w6 ⟨rfl, hb6⟩
          have HB6 := Lib.hid (below_next HB5.out hb6); have PX6 := Lib.hid (PX5.out.below hb6)
          clear hb6 c0 c1 c2 lb
          have c0 := PX6.out.cell 0; have c1 := PX6.out.cell 1; have c2 := PX6.out.cell 2
          have lb := PX6.out.lt
          go_wp2_with fail
          refine (BADH.out _ w6 HB6.out).mono ?_
          rintro e w7 ⟨rfl, hb7⟩
          have HB7 := Lib.hid (below_next HB6.out hb7)
          clear hb7 c0 c1 c2 lb
          go_wp2_with fail
          refine (Ev.works_22_any _).mono ?_
          rintro e w99 ⟨rfl, hb99⟩
          have HF := Lib.hid (below_next HB7.out hb99)
          clear hb99
          go_wp2_with fail
          go_ret
          exact ⟨rfl, HF.out⟩
        | true =>
          have NEWH := Lib.hid (NEW.out rt)
          have RT := Lib.hid rt
          clear BAD rt NEW
          have NA := Lib.hid (NEWH.out I ci inp (by rw [← HNI.out]; have := HNI30.out; omega) H64.out w4 HB4.out (by rw [← HNI.out]; exact IN4.out))
          rw [← HNI.out] at NA
          go_wp2_with fail
          refine NA.out.mono ?_
          rintro e w5 ⟨r1, ρ1, rfl, ha5, hb5, hd1⟩
          have HB5 := Lib.hid (below_next HB4.out hb5); have PX5 := Lib.hid (PX4.out.below hb5)
          have A5 := Lib.hid ha5; have L5 := Lib.hid (LONG.out.below hb5); have IN5 := Lib.hid (IN4.out.below hb5)
          clear hb5 c0 c1 c2 lb ha5 hd1 NA
          have NB := Lib.hid (NEWH.out V4 d4 (inp ++ more) (by rw [← HNK.out]; have := HNKB.out; omega) (fun n hn => by rcases List.mem_append.1 hn with h | h; exact H64.out n h; exact H64M.out n h) w5 HB5.out (by rw [← HNK.out]; exact L5.out))
          rw [← HNK.out] at NB
          have c0 := PX5.out.cell 0; have c1 := PX5.out.cell 1; have c2 := PX5.out.cell 2
          have lb := PX5.out.lt
          go_wp2_with fail
          refine NB.out.mono ?_
          rintro e w6 ⟨r2, ρ2, rfl, ha6, hb6, hd2⟩
          have HB6 := Lib.hid (below_next HB5.out hb6); have PX6 := Lib.hid (PX5.out.below hb6)
          have A6 := Lib.hid (A5.out.below hb6); have B6 := Lib.hid ha6; have IN6 := Lib.hid (IN5.out.below hb6)
          have D12 := Lib.hid (show ∀ k, ρ1 k = none ∨ ρ2 k = none from fun k => by
            cases e1 : ρ1 k with
            | none => exact Or.inl rfl
            | some q =>
              cases e2 : ρ2 k with
              | none => exact Or.inr rfl
              | some q2 => have := (A5.out.dom k q e1).2; have := hd2 k q2 e2; omega)
          clear hb6 c0 c1 c2 lb ha6 hd2 NB A5 L5
          have NC := Lib.hid (NEWH.out I ci inp (by rw [← HNI.out]; have := HNI30.out; omega) H64.out w6 HB6.out (by rw [← HNI.out]; exact IN6.out))
          rw [← HNI.out] at NC
          have c0 := PX6.out.cell 0; have c1 := PX6.out.cell 1; have c2 := PX6.out.cell 2
          have lb := PX6.out.lt
          go_wp2_with fail
          refine NC.out.mono ?_
          rintro e w7 ⟨r3, ρ3, rfl, ha7, hb7, hd3⟩
          have HB7 := Lib.hid (below_next HB6.out hb7)
          have A7 := Lib.hid (A6.out.below hb7); have B7 := Lib.hid (B6.out.below hb7); have C7 := Lib.hid ha7
          have D13 := Lib.hid (show ∀ k, ρ1 k = none ∨ ρ3 k = none from fun k => by
            cases e1 : ρ1 k with
            | none => exact Or.inl rfl
            | some q =>
              cases e2 : ρ3 k with
              | none => exact Or.inr rfl
              | some q2 => have := (A6.out.dom k q e1).2; have := hd3 k q2 e2; omega)
          have D23 := Lib.hid (show ∀ k, ρ2 k = none ∨ ρ3 k = none from fun k => by
            cases e1 : ρ2 k with
            | none => exact Or.inl rfl
            | some q =>
              cases e2 : ρ3 k with
              | none => exact Or.inr rfl
              | some q2 => have := (B6.out.dom k q e1).2; have := hd3 k q2 e2; omega)
          clear hb7 c0 c1 c2 lb ha7 hd3 NC A6 B6 PX4 PX5 PX6 IN4 IN5 IN6 LONG NEWH PX
          obtain ⟨s0, hs0⟩ : ∃ s, s = newM p inp := ⟨_, rfl⟩
          have hB7 := B7.out
          rw [show newM p (inp ++ more) = s0.ext more by rw [hs0]; rfl] at hB7
          have BB := Lib.hid hB7; have AA := Lib.hid A7.out; have CC := Lib.hid C7.out
          rw [← hs0] at AA CC
          have HS0 := Lib.hid (show s0.steps = 0 by rw [hs0]; rfl)
          have HI0 := Lib.hid (show readsM s0.evs + s0.inp.length = ni by rw [hs0]; show 0 + inp.length = ni; have := HNI.out; omega)
          clear hB7 hs0 A7 B7 C7
          obtain ⟨s1, hs1⟩ : ∃ s, s = runM doW p c s0 := ⟨_, rfl⟩
          obtain ⟨n1, hn1⟩ : ∃ n, n = cntM doW p c s0 := ⟨_, rfl⟩
          have hf1 : s1.steps ≤ 1000 := by rw [hs1]; have := run_steps doW (p := p) c (s := s0); have := HS0.out; omega
          have GO1 := Lib.hid (AA.out.go (c : Int) (by omega) (by rw [Int.toNat_natCast, ← hs1]; omega))
          rw [Int.toNat_natCast, ← hs1, ← hn1] at GO1
          have HL1 := Lib.hid (show n1 ≤ c by rw [hn1]; exact cnt_le doW (p := p) c s0)
          have HE1 := Lib.hid (show n1 < c → s1.ended = true from fun h => by rw [hs1]; exact cnt_less doW c s0 (by rw [← hn1]; exact h))
          have HST := Lib.hid (show s1.steps = n1 by have := steps_cnt (right_good RT.out) doW_i64 AA.out.num c s0 AA.out.ok; rw [← hs1, ← hn1, HS0.out] at this; omega)
          have HCC := Lib.hid (show cntM doW p n1 s0 = n1 ∧ runM doW p n1 s0 = s1 from ⟨by rw [hn1]; exact cnt_cnt doW c s0, by rw [hn1, hs1]; exact run_cnt doW c s0⟩)
          have HMORE := Lib.hid (show readsM s1.evs ≤ ni → runM doW p c (s0.ext more) = s1.ext more ∧ cntM doW p c (s0.ext more) = n1 from fun h => by
            have := run_more (right_good RT.out) doW_i64 AA.out.num more ni c s0 AA.out.ok (Nat.le_of_eq HI0.out.symm) (by rw [← hs1]; exact h)
            rw [← hs1, ← hn1] at this; exact this)
          have HF1 := Lib.hid hf1; have HOK1 := Lib.hid (show MOk p s1 by rw [hs1]; exact run_ok doW (right_good RT.out) doW_i64 AA.out.num c AA.out.ok)
          clear hs1 hn1 hf1
          have wc : IntKind.i64.wrap (c : Int) = (c : Int) := IntWalk.i64_in _ (by omega)
          obtain ⟨ne, hne⟩ : ∃ b, b = s1.evs.length := ⟨_, rfl⟩
          have HNEB := Lib.hid (show ne ≤ 1000 by rw [hne]; have := HOK1.out.many.1; have := HF1.out; omega)
          have HNE := Lib.hid hne
          go_wp2_with fail
          refine GO1.out.mono ?_
          rintro e w8 ⟨rfl, ρ4, ha, hk⟩
          obtain ⟨hb, hd⟩ := BB.out.other hk (fun k => (D12.out k).symm)
          obtain ⟨hc2, hd2⟩ := CC.out.other hk (fun k => (D13.out k).symm)
          have A8 := Lib.hid ha; have B8 := Lib.hid hb; have C8 := Lib.hid hc2; have D12 := Lib.hid hd; have D13 := Lib.hid hd2; have HB8 := Lib.hid (AA.out.kp hk HB7.out)
          clear ha hb hc2 hd hd2 hk GO1 AA BB CC HB7 HI0 HS0
          have EVA := Lib.hid (A8.out.events_own)
          rw [← hne] at EVA
          clear hne
          go_wp2_with fail
          refine EVA.out.mono ?_
          rintro e w9 ⟨EA, cea, rfl, hown, hb⟩
          have hlt9 : ∀ k, (Value.slice EA ne cea).ownBlock = some k → w8.heap.size ≤ k ∧ k < w9.heap.size := fun k e => hown.lt k e
          have A9 := Lib.hid (A8.out.below hb); have B9 := Lib.hid (B8.out.below hb); have C9 := Lib.hid (C8.out.below hb); have HB9 := Lib.hid (below_next HB8.out hb)
          have OFA := Lib.hid (A8.out.off hlt9); have OFB := Lib.hid (B8.out.off hlt9); have OFC := Lib.hid (C8.out.off hlt9)
          have OE9 := Lib.hid (own_lowerM (base' := w.heap.size) hown HB8.out.size)
          clear hown hb hlt9 A8 B8 C8 HB8 EVA
          obtain ⟨en, hen⟩ : ∃ b, b = s1.ended := ⟨_, rfl⟩
          have HEN := Lib.hid hen; clear hen
          have q1 : decide ((c : Int) < (n1 : Int)) = false := decide_eq_false (by have := HL1.out; omega)
          have q1' : ¬ c < n1 := by have := HL1.out; omega
          have CEA := Lib.hid A9.out.ended
          rw [← HEN.out] at CEA
          have qne : ((n1 : Int) != (n1 : Int)) = false := by simp
          by_cases hlt : n1 < c
          case' pos =>
            have het : en = true := by rw [HEN.out]; exact HE1.out hlt
            rw [het] at CEA
            go_wp2_with fail
            refine CEA.out.mono ?_
            rintro e w10 ⟨rfl, hb⟩
            have A10 := Lib.hid (A9.out.below hb); have B10 := Lib.hid (B9.out.below hb); have C10 := Lib.hid (C9.out.below hb); have HB10 := Lib.hid (below_next HB9.out hb); have OE10 := Lib.hid (ownM OE9.out hb); have OFA10 := Lib.hid (OFA.out.below hb); have OFB10 := Lib.hid (OFB.out.below hb); have OFC10 := Lib.hid (OFC.out.below hb)
            clear hb A9 B9 C9 HB9 OE9 OFA OFB OFC CEA q1 q1' hlt het
            go_wp2_with fail
          case' neg =>
            obtain ⟨w10, hw10⟩ : ∃ W, W = w9 := ⟨_, rfl⟩
            rw [← hw10] at A9 B9 C9 HB9 OE9 OFA OFB OFC ⊢
            have A10 := Lib.hid A9.out; have B10 := Lib.hid B9.out; have C10 := Lib.hid C9.out; have HB10 := Lib.hid HB9.out; have OE10 := Lib.hid OE9.out; have OFA10 := Lib.hid OFA.out; have OFB10 := Lib.hid OFB.out; have OFC10 := Lib.hid OFC.out
            have q2 : decide ((n1 : Int) < (c : Int)) = false := decide_eq_false (by omega)
            clear hw10 A9 B9 C9 HB9 OE9 OFA OFB OFC CEA
            go_wp2_with fail
          all_goals (
            have ST := Lib.hid A10.out.steps
            rw [HST.out] at ST
            refine ST.out.mono ?_
            rintro e w11 ⟨rfl, hb⟩
            have A11 := Lib.hid (A10.out.below hb); have B11 := Lib.hid (B10.out.below hb); have C11 := Lib.hid (C10.out.below hb); have HB11 := Lib.hid (below_next HB10.out hb); have OE11 := Lib.hid (ownM OE10.out hb); have OFA11 := Lib.hid (OFA10.out.below hb); have OFB11 := Lib.hid (OFB10.out.below hb); have OFC11 := Lib.hid (OFC10.out.below hb)
            clear hb A10 B10 C10 HB10 OE10 OFA10 OFB10 OFC10 ST
            have GO2 := Lib.hid (C11.out.go (n1 : Int) (by have := HL1.out; omega) (by rw [Int.toNat_natCast, HCC.out.2]; have := HF1.out; omega))
            rw [Int.toNat_natCast, HCC.out.1, HCC.out.2] at GO2
            go_wp2_with fail
            refine GO2.out.mono ?_
            rintro e w12 ⟨rfl, ρ5, ha, hk⟩
            obtain ⟨ha2, hd⟩ := A11.out.other hk (fun k => (D13.out k).symm)
            obtain ⟨hb2, hd2⟩ := B11.out.other hk D23.out
            have C12 := Lib.hid ha; have A12 := Lib.hid ha2; have B12 := Lib.hid hb2; have D13 := Lib.hid hd; have D23 := Lib.hid hd2; have HB12 := Lib.hid (C11.out.kp hk HB11.out); have OE12 := Lib.hid (own_kp OE11.out OFC11.out hk); have OFA12 := Lib.hid (OFA11.out.size hk); have OFB12 := Lib.hid (OFB11.out.size hk); have OFC12 := Lib.hid (OFC11.out.kp hk)
            clear ha ha2 hb2 hd hd2 hk A11 B11 C11 HB11 OE11 OFA11 OFB11 OFC11 GO2
            have EVC := Lib.hid C12.out.events
            rw [← HNE.out] at EVC
            go_wp2_with fail
            refine EVC.out.mono ?_
            rintro e w13 ⟨EC, cec, rfl, hev, hb⟩
            have A13 := Lib.hid (A12.out.below hb); have B13 := Lib.hid (B12.out.below hb); have C13 := Lib.hid (C12.out.below hb); have HB13 := Lib.hid (below_next HB12.out hb); have OE13 := Lib.hid (ownM OE12.out hb); have OFA13 := Lib.hid (OFA12.out.below hb); have OFB13 := Lib.hid (OFB12.out.below hb); have OFC13 := Lib.hid (OFC12.out.below hb)
            have SM := Lib.hid (evsame_any (.slice EC ne cec) (.slice EA ne cea) s1.evs s1.evs w13 hev (ev_own OE13.out HNE.out) (by rw [← HNE.out]; have := HNEB.out; omega))
            rw [decide_eq_true rfl] at SM
            clear hb hev A12 B12 C12 HB12 OE12 OFA12 OFB12 OFC12 EVC
            go_wp2_with fail
            refine SM.out.mono ?_
            rintro e w14 ⟨rfl, hb⟩
            have A14 := Lib.hid (A13.out.below hb); have B14 := Lib.hid (B13.out.below hb); have C14 := Lib.hid (C13.out.below hb); have HB14 := Lib.hid (below_next HB13.out hb); have OE14 := Lib.hid (ownM OE13.out hb); have OFA14 := Lib.hid (OFA13.out.below hb); have OFB14 := Lib.hid (OFB13.out.below hb); have OFC14 := Lib.hid (OFC13.out.below hb)
            clear hb A13 B13 C13 HB13 OE13 OFA13 OFB13 OFC13 SM
            go_wp2_with fail
            go_loopg [18, 19] ne (fun gk v u wr => ∃ i : Nat, i ≤ ne ∧ ne - i ≤ gk ∧ v = .int .i64 (readsM (s1.evs.take i)) ∧ u = .int .i64 i ∧ Hid (Below w14.heap.size w14 wr))
            case atStart => exact ⟨0, Nat.zero_le _, Nat.le_refl _, rfl, rfl, Lib.hid (Below.refl _ _)⟩
            case round =>
              obtain ⟨i, hi, hgk, rfl, rfl, HB⟩ := hrel
              obtain ⟨rd, hrd⟩ : ∃ r, r = readsM (s1.evs.take i) := ⟨_, rfl⟩
              rw [← hrd]
              have HRD := Lib.hid hrd
              have hrdb : rd ≤ i := by rw [hrd]; exact Nat.le_trans (List.length_filter_le _ _) (by rw [List.length_take]; omega)
              have HRB := Lib.hid hrdb
              clear hrd hrdb
              by_cases hlt : i < ne
              case pos =>
                have q : decide ((i : Int) < (ne : Int)) = true := decide_eq_true (by omega)
                have hii : (i : Int) < (ne : Int) := by omega
                obtain ⟨y, hy⟩ : ∃ y, s1.evs[i]? = some y := ⟨_, List.getElem?_eq_getElem (by rw [← HNE.out]; exact hlt)⟩
                obtain ⟨eb, eo, hE, hat⟩ : ∃ b o, EA = some ⟨b, o, none⟩ ∧ evAt wr b (o + i * 2) y := by
                  obtain ⟨A2, c2, e2, _, h2⟩ := (ev_own OE14.out HNE.out).below HB.out
                  injection e2 with e3 _ _
                  rcases h2 with e | ⟨b, o, e, hr⟩
                  · rw [e] at hy; simp at hy
                  · exact ⟨b, o, e3.trans e, hr i y hy⟩
                subst hE
                have k0 := hat.c0
                have le := cell_lt' k0
                have hrs := reads_take s1.evs i y hy
                rw [← HRD.out] at hrs
                have hib : rd ≤ 100000 := by have := HRB.out; have := HNEB.out; omega
                have hib2 : i ≤ 100000 := by have := HNEB.out; omega
                have wr1 : IntKind.i64.wrap ((rd : Int) + 1) = ((rd + 1 : Nat) : Int) := (IntWalk.i64_in _ (by omega)).trans (by omega)
                by_cases hk1 : y.1 = 1
                case pos =>
                  have qk : ((y.1 : Int) == 1) = true := by simp; omega
                  rw [if_pos hk1] at hrs
                  have HRS := Lib.hid hrs
                  clear hrs hat hy hk1
                  go_wp2_with fail
                  cases gk with
                  | zero => omega
                  | succ gk =>
                    go_roundg gk
                    case measure => omega
                    case rel => exact ⟨i + 1, by omega, by omega, by rw [HRS.out]; simp, by simp, HB⟩
                case neg =>
                  have qk : ((y.1 : Int) == 1) = false := by simp; omega
                  have qk' : ¬ ((y.1 : Int) = 1) := by omega
                  rw [if_neg hk1, Nat.add_zero] at hrs
                  have HRS := Lib.hid hrs
                  clear hrs hat hy hk1
                  go_wp2_with fail
                  cases gk with
                  | zero => omega
                  | succ gk =>
                    go_roundg gk
                    case measure => omega
                    case rel => exact ⟨i + 1, by omega, by omega, by rw [HRS.out]; simp, by simp, HB⟩
              case neg =>
                have q : decide ((i : Int) < (ne : Int)) = false := decide_eq_false (by omega)
                have hrt : readsM s1.evs = rd := by rw [HRD.out, List.take_of_length_le (by rw [← HNE.out]; omega)]
                have HRT := Lib.hid hrt
                have A15 := Lib.hid (A14.out.below HB.out); have B15 := Lib.hid (B14.out.below HB.out); have C15 := Lib.hid (C14.out.below HB.out); have HB15 := Lib.hid (below_next HB14.out HB.out); have OE15 := Lib.hid (ownM OE14.out HB.out); have OFA15 := Lib.hid (OFA14.out.below HB.out); have OFB15 := Lib.hid (OFB14.out.below HB.out); have OFC15 := Lib.hid (OFC14.out.below HB.out)
                clear hrt A14 B14 C14 HB14 OE14 OFA14 OFB14 OFC14
                have GO3 := Lib.hid (fun (h : rd ≤ ni) => B15.out.go (c : Int) (by omega) (by rw [Int.toNat_natCast, (HMORE.out (by rw [HRT.out]; exact h)).1]; show s1.steps ≤ _; have := HF1.out; omega))
                by_cases hrn : rd ≤ ni
                case' pos =>
                  have q5 : decide ((rd : Int) ≤ (ni : Int)) = true := decide_eq_true (by omega)
                  have q5' : rd ≤ ni := hrn
                  have hm := HMORE.out (by rw [HRT.out]; exact hrn)
                  have g3 := GO3.out hrn
                  rw [Int.toNat_natCast, hm.1, hm.2] at g3
                  have G3 := Lib.hid g3
                  clear g3 hm GO3 HMORE
                  go_wp2_with fail
                  refine G3.out.mono ?_
                  rintro e w16 ⟨rfl, ρ6, ha, hk⟩
                  obtain ⟨ha2, hd⟩ := A15.out.other hk (fun k => (D12.out k).symm)
                  obtain ⟨hc2, hd2⟩ := C15.out.other hk (fun k => (D23.out k).symm)
                  have B16 := Lib.hid ha; have A16 := Lib.hid ha2; have C16 := Lib.hid hc2; have HB16 := Lib.hid (B15.out.kp hk HB15.out); have OE16 := Lib.hid (own_kp OE15.out OFB15.out hk); have OFA16 := Lib.hid (OFA15.out.size hk)
                  clear ha ha2 hc2 hd hd2 hk A15 B15 C15 HB15 OE15 OFA15 OFB15 OFC15 G3
                  have EVB := Lib.hid B16.out.events
                  rw [show (s1.ext more).evs = s1.evs from rfl, ← HNE.out] at EVB
                  go_wp2_with fail
                  refine EVB.out.mono ?_
                  rintro e w17 ⟨EB, ceb, rfl, hev, hb⟩
                  have A17 := Lib.hid (A16.out.below hb); have C17 := Lib.hid (C16.out.below hb); have HB17 := Lib.hid (below_next HB16.out hb); have OE17 := Lib.hid (ownM OE16.out hb); have OFA17 := Lib.hid (OFA16.out.below hb)
                  have SM := Lib.hid (evsame_any (.slice EB ne ceb) (.slice EA ne cea) s1.evs s1.evs w17 hev (ev_own OE17.out HNE.out) (by rw [← HNE.out]; have := HNEB.out; omega))
                  rw [decide_eq_true rfl] at SM
                  clear hb hev A16 B16 C16 HB16 OE16 OFA16 EVB
                  go_wp2_with fail
                  refine SM.out.mono ?_
                  rintro e w18 ⟨rfl, hb⟩
                  have A18 := Lib.hid (A17.out.below hb); have C18 := Lib.hid (C17.out.below hb); have HB18 := Lib.hid (below_next HB17.out hb); have OE18 := Lib.hid (ownM OE17.out hb); have OFA18 := Lib.hid (OFA17.out.below hb)
                  clear hb A17 C17 HB17 OE17 OFA17 SM
                  go_wp2_with fail
                case' neg =>
                  have q5 : decide ((rd : Int) ≤ (ni : Int)) = false := decide_eq_false (by omega)
                  obtain ⟨w18, hw18⟩ : ∃ W, W = wr := ⟨_, rfl⟩
                  rw [← hw18] at A15 C15 HB15 OE15 OFA15 ⊢
                  have A18 := Lib.hid A15.out; have C18 := Lib.hid C15.out; have HB18 := Lib.hid HB15.out; have OE18 := Lib.hid OE15.out; have OFA18 := Lib.hid OFA15.out
                  clear hw18 A15 B15 C15 HB15 OE15 OFA15 OFB15 OFC15 GO3 HMORE
                  go_wp2_with fail
                all_goals (
                  obtain ⟨s2, hs2⟩ : ∃ s, s = runM doW p 50 s1 := ⟨_, rfl⟩
                  have h50 : ((50 : Int)).toNat = 50 := by decide
                  have GO4 := Lib.hid (A18.out.go 50 (by omega) (by rw [h50]; have := run_steps doW (p := p) 50 (s := s1); have := HF1.out; omega))
                  rw [h50, ← hs2] at GO4
                  have HBG := Lib.hid (show s1.evs.length ≤ s2.evs.length ∧ s2.evs.take s1.evs.length = s1.evs from by
                    obtain ⟨l2, hl2⟩ := run_evs doW (p := p) 50 s1
                    rw [hs2, hl2]
                    exact ⟨by rw [List.length_append]; omega, List.take_left⟩)
                  have HEQ := Lib.hid (show en = true → s2 = s1 from fun h => by rw [hs2]; exact run_ended doW 50 (by rw [← HEN.out]; exact h))
                  clear hs2 h50
                  refine GO4.out.mono ?_
                  rintro e w20 ⟨rfl, ρ7, ha, hk⟩
                  obtain ⟨hc2, _⟩ := C18.out.other hk (fun k => (D13.out k).symm)
                  have A20 := Lib.hid ha; have C20 := Lib.hid hc2; have HB20 := Lib.hid (A18.out.kp hk HB18.out); have OE20 := Lib.hid (own_kp OE18.out OFA18.out hk)
                  clear ha hc2 hk A18 C18 HB18 OE18 OFA18 GO4
                  obtain ⟨n2, hn2⟩ : ∃ n, n = s2.evs.length := ⟨_, rfl⟩
                  have HN2 := Lib.hid hn2
                  have HN2B := Lib.hid (show n2 ≤ 10000 by rw [hn2]; have := A20.out.ok.many.1; have := A20.out.few; omega)
                  have EV2 := Lib.hid A20.out.events
                  rw [← hn2] at EV2
                  clear hn2
                  go_wp2_with fail
                  refine EV2.out.mono ?_
                  rintro e w21 ⟨E2, ce2, rfl, hev, hb⟩
                  have A21 := Lib.hid (A20.out.below hb); have C21 := Lib.hid (C20.out.below hb); have HB21 := Lib.hid (below_next HB20.out hb); have OE21 := Lib.hid (ownM OE20.out hb)
                  have BG := Lib.hid (evbegins_any (.slice E2 n2 ce2) (.slice EA ne cea) s2.evs s1.evs w21 hev (ev_own OE21.out HNE.out) (by rw [← HN2.out]; have := HN2B.out; omega) (by rw [← HNE.out]; have := HNEB.out; omega))
                  rw [decide_eq_true HBG.out] at BG
                  clear hb hev A20 C20 HB20 OE20 EV2
                  go_wp2_with fail
                  refine BG.out.mono ?_
                  rintro e w22 ⟨rfl, hb⟩
                  have A22 := Lib.hid (A21.out.below hb); have C22 := Lib.hid (C21.out.below hb); have HB22 := Lib.hid (below_next HB21.out hb); have OE22 := Lib.hid (ownM OE21.out hb)
                  clear hb A21 C21 HB21 OE21 BG
                  have CE2 := Lib.hid C22.out.ended
                  rw [← HEN.out] at CE2
                  cases hen2 : en with
                  | false =>
                    rw [hen2] at CE2
                    clear hen2
                    go_wp2_with fail
                    refine CE2.out.mono ?_
                    rintro e w23 ⟨rfl, hb⟩
                    have HB23 := Lib.hid (below_next HB22.out hb)
                    clear hb CE2
                    go_wp2_with fail
                    refine (Ev.works_22_any _).mono ?_
                    rintro e w99 ⟨rfl, hb99⟩
                    have HF := Lib.hid (below_next HB23.out hb99)
                    clear hb99
                    go_wp2_with fail
                    go_ret
                    exact ⟨rfl, HF.out⟩
                  | true =>
                    have hse := HEQ.out hen2
                    rw [hen2] at CE2
                    subst hse
                    have HNN := Lib.hid (show n2 = ne by rw [HN2.out, HNE.out])
                    clear hen2
                    go_wp2_with fail
                    refine CE2.out.mono ?_
                    rintro e w23 ⟨rfl, hb⟩
                    have A23 := Lib.hid (A22.out.below hb); have HB23 := Lib.hid (below_next HB22.out hb); have OE23 := Lib.hid (ownM OE22.out hb)
                    clear hb CE2 A22 C22 HB22 OE22
                    have EV3 := Lib.hid A23.out.events
                    rw [← HN2.out] at EV3
                    go_wp2_with fail
                    refine EV3.out.mono ?_
                    rintro e w24 ⟨E3, ce3, rfl, hev, hb⟩
                    have HB24 := Lib.hid (below_next HB23.out hb); have OE24 := Lib.hid (ownM OE23.out hb)
                    have SM3 := Lib.hid (evsame_any (.slice E3 n2 ce3) (.slice EA ne cea) _ _ w24 hev (ev_own OE24.out HNE.out) (by rw [← HN2.out]; have := HN2B.out; omega))
                    rw [decide_eq_true rfl] at SM3
                    clear hb hev A23 HB23 OE23 EV3
                    go_wp2_with fail
                    refine SM3.out.mono ?_
                    rintro e w25 ⟨rfl, hb⟩
                    have HB25 := Lib.hid (below_next HB24.out hb)
                    clear hb SM3
                    go_wp2_with fail
                    refine (Ev.works_22_any _).mono ?_
                    rintro e w99 ⟨rfl, hb99⟩
                    have HF := Lib.hid (below_next HB25.out hb99)
                    clear hb99
                    go_wp2_with fail
                    go_ret
                    exact ⟨rfl, HF.out⟩
                  ))
end Go.Proofs.YtgdibfnpkcdiiaaGreatDoor
