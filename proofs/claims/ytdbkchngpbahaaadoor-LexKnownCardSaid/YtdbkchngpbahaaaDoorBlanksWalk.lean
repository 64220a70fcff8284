/- The walk over LexBlanks: whatever the source, the token and the blank, it answers true. By an AI agent. -/
import Derived.Test.YtdbkchngpbahaaaDoorMoreWalk
import Derived.Test.YtdbkchngpbahaaaDoorBlanks
namespace Go.Proofs.YtdbkchngpbahaaaDoor
open Go.RowKit

set_option maxRecDepth 100000 in
set_option maxHeartbeats 8000000 in
theorem blanks_big (a : Option Addr) (na ca : Nat) (wh bl : Int) (w : World) (hw : EW w) (h : 2000 < na) :
    Calls Tryd.prog 5 #[.slice a na ca, .int .u16 wh, .int .u8 bl] w fun e w' => e = .returned (.bool true) ∧ Below w.heap.size w w' := by
  have HW := Lib.hid hw; clear hw
  have h1' : (2000 : Int) < (na : Int) := by omega
  clear h
  go_enter Tryd.func5, Tryd.ntmps5
  go_wp2_with fail
  refine (works_any _ HW.out).mono ?_; rintro e w1 ⟨rfl, hb1⟩
  go_wp2_with fail
  go_ret
  exact ⟨rfl, hb1⟩

def blanksL : List UInt8 := [9, 10, 13, 32]
theorem blanks_blk (i : Nat) (h : i < 4) : ∃ b, blanksL[i]? = some b ∧ isBlk b = true := by
  match i, h with
  | 0, _ => exact ⟨_, rfl, rfl⟩
  | 1, _ => exact ⟨_, rfl, rfl⟩
  | 2, _ => exact ⟨_, rfl, rfl⟩
  | 3, _ => exact ⟨_, rfl, rfl⟩

theorem BytS.take {w : World} {a : Option Addr} {l : List UInt8} (h : BytS w a l) (n : Nat) : BytS w a (l.take n) := by
  rcases h with ⟨rfl, _⟩ | ⟨b, o, e, h⟩
  · exact Or.inl ⟨by simp, trivial⟩
  · refine Or.inr ⟨b, o, e, fun i hi => ?_⟩
    rw [List.length_take] at hi
    rw [List.getElem_take]
    exact h i (by omega)

/-- Where a token stands behind the blank. -/
theorem blanks_at {l : List UInt8} {ts : List Tok} (h : lx l 0 = .ok ts) {i : Nat} {t : Tok} (hi : ts[i]? = some t) {k : Nat} {u : Tok} (hk : ts[k]? = some u) :
    (ts.take i ++ (ts.drop i).map (shiftT 1))[k]? = some (if t.at' ≤ u.at' then shiftT 1 u else u) := by
  have hp := List.pairwise_iff_getElem.1 (lx_from h).2
  obtain ⟨hi1, hi2⟩ := List.getElem?_eq_some_iff.1 hi
  obtain ⟨hk1, hk2⟩ := List.getElem?_eq_some_iff.1 hk
  by_cases hki : k < i
  · have := hp k i hk1 hi1 hki
    rw [hk2, hi2] at this
    rw [if_neg (by omega), List.getElem?_append_left (by rw [List.length_take]; omega), List.getElem?_take_of_lt hki, hk]
  · have hle : t.at' ≤ u.at' := by
      rcases Nat.lt_or_ge i k with h' | h'
      · have := hp i k hi1 hk1 h'
        rw [hk2, hi2] at this; omega
      · obtain rfl : k = i := by omega
        rw [hi2] at hk2; rw [hk2]; exact Nat.le_refl _
    rw [if_pos hle, List.getElem?_append_right (by rw [List.length_take]; omega), List.length_take, List.getElem?_map, List.getElem?_drop]
    have e : i + (k - min i ts.length) = k := by omega
    rw [e, hk]; rfl
theorem blanks_len {ts : List Tok} (i : Nat) : (ts.take i ++ (ts.drop i).map (shiftT 1)).length = ts.length := by
  rw [List.length_append, List.length_map, List.length_take, List.length_drop]; omega

set_option maxRecDepth 100000 in
set_option maxHeartbeats 16000000 in
theorem blanks_small (a : Option Addr) (ca : Nat) (l : List UInt8) (wh bl : Nat) (w : World) (hw : EW w) (hn : l.length ≤ 2000) (hc : l.length ≤ ca) (hcm : ca ≤ 9223372036854775807) (hwh : wh ≤ 65535) (hbl : bl ≤ 255) (ha : BytS w a l) (hnil : a = none → ca = 0) :
    Calls Tryd.prog 5 #[.slice a l.length ca, .int .u16 wh, .int .u8 bl] w fun e w' => e = .returned (.bool true) ∧ Below w.heap.size w w' := by
  have HW := Lib.hid hw; have HA := Lib.hid ha; clear hw ha
  obtain ⟨n, hn'⟩ : ∃ n, n = l.length := ⟨_, rfl⟩
  have HN := Lib.hid hn'
  rw [← hn'] at hn hc ⊢
  have h1' : ¬ (2000 : Int) < (n : Int) := by omega
  clear hn'
  cases hA : lx l 0 with
  | error ee =>
    obtain ⟨p, er⟩ := ee
    have her : ((er : Int) == 0) = false := by rcases lx_code hA with rfl | rfl <;> rfl
    have hern : ¬ (er : Int) = 0 := by rcases lx_code hA with rfl | rfl <;> decide
    have HLA := Lib.hid (lex_bad a ca l p er w (by rw [← HN.out]; omega) HA.out HW.out hA)
    rw [← HN.out] at HLA
    clear hA
    go_enter Tryd.func5, Tryd.ntmps5
    go_wp2_with fail
    refine HLA.out.mono ?_; rintro e w1 ⟨rfl, hb1⟩
    go_wp2_with fail
    refine (works_any _ (HW.out.below hb1)).mono ?_; rintro e w2 ⟨rfl, hb2⟩
    go_wp2_with fail
    go_ret
    exact ⟨rfl, below_next hb1 hb2⟩
  | ok ts =>
    have HLA := Lib.hid (lex_ok a ca l ts w (by rw [← HN.out]; omega) HA.out HW.out hA)
    rw [← HN.out] at HLA
    have hne := lx_ne hA
    have htl := lx_many hA
    rw [← HN.out] at htl
    obtain ⟨nt, hnt⟩ : ∃ k, k = ts.length := ⟨_, rfl⟩
    have hnt0 : 0 < nt := by rw [hnt]; exact List.length_pos_iff.2 hne
    have HNT := Lib.hid hnt
    rw [← hnt] at htl
    have hin : wh % nt < nt := Nat.mod_lt _ hnt0
    obtain ⟨t, ht⟩ : ∃ t, ts[wh % nt]? = some t := ⟨_, List.getElem?_eq_getElem (by rw [← hnt]; exact hin)⟩
    have hpl := lx_place hA t (List.mem_of_getElem? ht)
    rw [Nat.zero_add, ← HN.out] at hpl
    have HT := Lib.hid ht
    have HA0 := Lib.hid hA
    clear hA hnt ht
    have g1 : ((nt : Int) == 0) = false := by rw [beq_eq_false_iff_ne]; omega
    have g1' : ¬ (nt : Int) = 0 := by omega
    go_enter Tryd.func5, Tryd.ntmps5
    go_wp2_with fail
    refine HLA.out.mono ?_; rintro e w1 ⟨AX, cx, rfl, htx, hb1⟩
    rw [← HNT.out]
    obtain ⟨bx, ox, rfl, hx⟩ := toks_block htx hne
    have HX := Lib.hid hx
    obtain ⟨x0, x1, x2, x3⟩ := hx (wh % nt) t HT.out
    clear htx hx hne
    have HPL := Lib.hid hpl
    obtain ⟨at', hat⟩ : ∃ q, q = t.at' := ⟨_, rfl⟩
    rw [← hat] at x3 hpl
    have HAT := Lib.hid hat
    clear hat
    have hpl' : ¬ (n : Int) < (at' : Int) := by omega
    have hap : ¬ (at' : Int) < 0 := by omega
    have hnat : ¬ n < at' := by omega
    go_wp2_with fail
    have hA1 := HA.out.below hb1
    rcases hA1 with ⟨hl, _⟩ | ⟨b, o, rfl, hcell⟩
    · have hn0 : n = 0 := by rw [HN.out, hl]; rfl
      subst hn0
      obtain rfl : at' = 0 := by omega
      have kA : ∀ (ad : Option Addr) c q, (convert 22 9 (.slice ad 0 c)).run Tryd.prog (w1.drewN q) = .ok (.string ⟨#[]⟩) (w1.drewN q) := fun ad c q => BytS.conv (w := w1.drewN q) (a := ad) (l := []) (Or.inl ⟨rfl, trivial⟩) c
      obtain ⟨j, hj⟩ : ∃ j, j = bl % 4 := ⟨_, rfl⟩
      have hj4 : j < 4 := by omega
      have hji : ((bl : Int) % 4) = (j : Int) := by omega
      have htm : (bl : Int).tmod 4 = (j : Int) := (Int.tmod_eq_emod_of_nonneg (by omega)).trans (by omega)
      have hj5 : (j : Int) + 1 ≤ 4 := by omega
      have hj6 : (j : Int) + 1 ≤ 255 := by omega
      have hwr : IntKind.u8.wrap ((j : Int) + 1) = (j : Int) + 1 := by rw [IntKind.wrap_u8]; omega
      have hsE : ((⟨#[9, 10, 13, 32]⟩ : ByteArray).extract j (j + 1)).size = 1 := by rw [ByteArray.size_extract]; show min (j + 1) 4 - j = 1; omega
      have hj7 : (j : Int) ≤ (j : Int) + 1 := by omega
      have hmn : min (j + 1) 4 - j = 1 := by omega
      obtain ⟨bb, hbb, hblk⟩ := blanks_blk j hj4
      have hE : ((⟨#[9, 10, 13, 32]⟩ : ByteArray).extract j (j + 1)).data.toList = [bb] := by
        have := ext_mid (⟨#[9, 10, 13, 32]⟩ : ByteArray) j 1
        rw [this]
        match j, hj4 with
        | 0, _ => simp [blanksL] at hbb; simp [hbb]
        | 1, _ => simp [blanksL] at hbb; simp [hbb]
        | 2, _ => simp [blanksL] at hbb; simp [hbb]
        | 3, _ => simp [blanksL] at hbb; simp [hbb]
      have HE := Lib.hid hE
      have HM : Hid (lexS (l.take 0 ++ bb :: l.drop 0) = .ok (ts.take (wh % nt) ++ (ts.drop (wh % nt)).map (shiftT 1))) := Lib.hid (by
        have h0 := lx_blanks hblk HA0.out HT.out (by rw [← HAT.out]; exact Nat.zero_le _)
        rw [← HAT.out] at h0
        rw [lexS_lx]; exact h0)
      have HX' : Hid (∀ q, TokS (w1.drewN q) (some ⟨bx, ox, none⟩) ts) := Lib.hid (fun q => Or.inr ⟨bx, ox, rfl, HX.out⟩)
      have HLL := Lib.hid hl
      clear hE hbb hblk x0 x1 x2 x3 hl hj
      rcases a with _ | ad
      · obtain rfl : ca = 0 := hnil rfl
        clear hnil
        go_quiet (fail)
        have HS : Hid ((({ data := #[] } : ByteArray) ++ (⟨#[9, 10, 13, 32]⟩ : ByteArray).extract j (j + 1) ++ ({ data := #[] } : ByteArray)).data.toList = l.take 0 ++ bb :: l.drop 0) := Lib.hid (by
          rw [ByteArray.data_append, ByteArray.data_append, Array.toList_append, Array.toList_append, HE.out, HLL.out]; simp)
        have hs3 : (({ data := #[] } : ByteArray) ++ (⟨#[9, 10, 13, 32]⟩ : ByteArray).extract j (j + 1) ++ ({ data := #[] } : ByteArray)).size = 1 := by rw [ByteArray.size_append, ByteArray.size_append, hsE]; rfl
        have HLEN : Hid ((l.take 0 ++ bb :: l.drop 0).length = 1) := Lib.hid (by rw [HLL.out]; simp)
        have HB2 := Lib.hid (hb1.trans ((below_drewN w1 nq).mono hb1.size))
        have HTX := Lib.hid (HX'.out nq)
        generalize (({ data := #[] } : ByteArray) ++ (⟨#[9, 10, 13, 32]⟩ : ByteArray).extract j (j + 1) ++ ({ data := #[] } : ByteArray)) = S at *
        clear kA HE hsE hmn hb1 HX'
        generalize w1.drewN nq = w2 at *
        have kS := fun s => Lib.run_convert_string_bytes (P := Tryd.prog) w2 9 22 5 s (u := .string) Tryd.underlying9 Tryd.underlying22 Tryd.underlying5
        go_wp2_with fail
        all_goals
          refine (third_ok w2 S _ _ _ _ HS.out HLEN.out (by omega) (HW.out.below HB2.out) HM.out).mono ?_; rintro e w3 ⟨AZ, cz, rfl, htz, hb3⟩
          rw [blanks_len, ← HNT.out]
          have HB3 := Lib.hid (below_next HB2.out hb3)
          obtain ⟨bx', ox', hxe, hx⟩ := toks_block (HTX.out.below hb3) (fun e => by have := HNT.out; rw [e] at this; simp at this; omega)
          injection hxe with hxe
          injection hxe with hxe1 hxe2 _
          subst hxe1 hxe2
          obtain ⟨bz, oz, rfl, hz⟩ := toks_block htz (fun e => by have := congrArg List.length e; rw [blanks_len, ← HNT.out] at this; simp at this; omega)
          have HXX := Lib.hid hx; have HZ := Lib.hid hz
          clear htz hx hz hb3 kS hs3
          go_wp2_with fail
          go_loopw [15] (fun i wr => ∃ k : Nat, k ≤ nt ∧ i = .int .i64 k ∧ Below w3.heap.size w3 wr) (fun i _ => nt - (intOf i).toNat)
          case atStart => exact ⟨0, Nat.zero_le _, rfl, Below.refl _ _⟩
          case round =>
            obtain ⟨k, hk, rfl, hbr⟩ := hrel
            by_cases hlt : k < nt
            · obtain ⟨u, hu⟩ : ∃ u, ts[k]? = some u := ⟨_, List.getElem?_eq_getElem (by rw [← HNT.out]; exact hlt)⟩
              have hzu := blanks_at HA0.out HT.out hu
              have hub := lx_place HA0.out u (List.mem_of_getElem? hu)
              rw [Nat.zero_add, ← HN.out] at hub
              obtain ⟨y0, y1, y2, y3⟩ := (HXX.out k u hu).below hbr
              have hz4 := (HZ.out k _ hzu).below hbr
              rw [← HAT.out] at hz4
              have hbx := cell_lt' y0
              by_cases hge : 0 ≤ u.at'
              · rw [if_pos hge] at hz4
                obtain ⟨z0, z1, z2, z3⟩ := hz4
                have z0' : wr.cell? ⟨bz, oz + k * 4, none⟩ = some (.int .u8 u.kind) := z0
                have z1' : wr.cell? ⟨bz, oz + k * 4 + 1, none⟩ = some (.string ⟨u.text.toArray⟩) := z1
                have z3' : wr.cell? ⟨bz, oz + k * 4 + 3, none⟩ = some (.int .i64 ((u.at' : Int) + 1)) := z3
                clear z0 z1 z2 z3 hzu hu
                go_upto_region 21 with fail
                go_quiet (fail)
                go_wp2_with fail
                go_roundw
                case rel => exact ⟨k + 1, by omega, by go_num, hbr.trans ((below_drewN _ nq).mono hbr.size)⟩
                case measure => simp [intOf]; omega
              · exact absurd (Nat.zero_le _) hge
            · have HB5 := Lib.hid (below_next HB3.out hbr)
              go_wp2_with (go_at_call 9; refine (works_any _ (HW.out.below HB5.out)).mono ?_; rintro e w4 ⟨rfl, hb4⟩)
              go_ret
              exact ⟨rfl, below_next HB5.out hb4⟩
      · clear hnil
        go_quiet (fail)
        have HS : Hid ((({ data := #[] } : ByteArray) ++ (⟨#[9, 10, 13, 32]⟩ : ByteArray).extract j (j + 1) ++ ({ data := #[] } : ByteArray)).data.toList = l.take 0 ++ bb :: l.drop 0) := Lib.hid (by
          rw [ByteArray.data_append, ByteArray.data_append, Array.toList_append, Array.toList_append, HE.out, HLL.out]; simp)
        have hs3 : (({ data := #[] } : ByteArray) ++ (⟨#[9, 10, 13, 32]⟩ : ByteArray).extract j (j + 1) ++ ({ data := #[] } : ByteArray)).size = 1 := by rw [ByteArray.size_append, ByteArray.size_append, hsE]; rfl
        have HLEN : Hid ((l.take 0 ++ bb :: l.drop 0).length = 1) := Lib.hid (by rw [HLL.out]; simp)
        have HB2 := Lib.hid (hb1.trans ((below_drewN w1 nq).mono hb1.size))
        have HTX := Lib.hid (HX'.out nq)
        generalize (({ data := #[] } : ByteArray) ++ (⟨#[9, 10, 13, 32]⟩ : ByteArray).extract j (j + 1) ++ ({ data := #[] } : ByteArray)) = S at *
        clear kA HE hsE hmn hb1 HX'
        generalize w1.drewN nq = w2 at *
        have kS := fun s => Lib.run_convert_string_bytes (P := Tryd.prog) w2 9 22 5 s (u := .string) Tryd.underlying9 Tryd.underlying22 Tryd.underlying5
        go_wp2_with fail
        all_goals
          refine (third_ok w2 S _ _ _ _ HS.out HLEN.out (by omega) (HW.out.below HB2.out) HM.out).mono ?_; rintro e w3 ⟨AZ, cz, rfl, htz, hb3⟩
          rw [blanks_len, ← HNT.out]
          have HB3 := Lib.hid (below_next HB2.out hb3)
          obtain ⟨bx', ox', hxe, hx⟩ := toks_block (HTX.out.below hb3) (fun e => by have := HNT.out; rw [e] at this; simp at this; omega)
          injection hxe with hxe
          injection hxe with hxe1 hxe2 _
          subst hxe1 hxe2
          obtain ⟨bz, oz, rfl, hz⟩ := toks_block htz (fun e => by have := congrArg List.length e; rw [blanks_len, ← HNT.out] at this; simp at this; omega)
          have HXX := Lib.hid hx; have HZ := Lib.hid hz
          clear htz hx hz hb3 kS hs3
          go_wp2_with fail
          go_loopw [15] (fun i wr => ∃ k : Nat, k ≤ nt ∧ i = .int .i64 k ∧ Below w3.heap.size w3 wr) (fun i _ => nt - (intOf i).toNat)
          case atStart => exact ⟨0, Nat.zero_le _, rfl, Below.refl _ _⟩
          case round =>
            obtain ⟨k, hk, rfl, hbr⟩ := hrel
            by_cases hlt : k < nt
            · obtain ⟨u, hu⟩ : ∃ u, ts[k]? = some u := ⟨_, List.getElem?_eq_getElem (by rw [← HNT.out]; exact hlt)⟩
              have hzu := blanks_at HA0.out HT.out hu
              have hub := lx_place HA0.out u (List.mem_of_getElem? hu)
              rw [Nat.zero_add, ← HN.out] at hub
              obtain ⟨y0, y1, y2, y3⟩ := (HXX.out k u hu).below hbr
              have hz4 := (HZ.out k _ hzu).below hbr
              rw [← HAT.out] at hz4
              have hbx := cell_lt' y0
              by_cases hge : 0 ≤ u.at'
              · rw [if_pos hge] at hz4
                obtain ⟨z0, z1, z2, z3⟩ := hz4
                have z0' : wr.cell? ⟨bz, oz + k * 4, none⟩ = some (.int .u8 u.kind) := z0
                have z1' : wr.cell? ⟨bz, oz + k * 4 + 1, none⟩ = some (.string ⟨u.text.toArray⟩) := z1
                have z3' : wr.cell? ⟨bz, oz + k * 4 + 3, none⟩ = some (.int .i64 ((u.at' : Int) + 1)) := z3
                clear z0 z1 z2 z3 hzu hu
                go_upto_region 21 with fail
                go_quiet (fail)
                go_wp2_with fail
                go_roundw
                case rel => exact ⟨k + 1, by omega, by go_num, hbr.trans ((below_drewN _ nq).mono hbr.size)⟩
                case measure => simp [intOf]; omega
              · exact absurd (Nat.zero_le _) hge
            · have HB5 := Lib.hid (below_next HB3.out hbr)
              go_wp2_with (go_at_call 9; refine (works_any _ (HW.out.below HB5.out)).mono ?_; rintro e w4 ⟨rfl, hb4⟩)
              go_ret
              exact ⟨rfl, below_next HB5.out hb4⟩
    · have hByt : BytS w1 (some ⟨b, o, none⟩) l := Or.inr ⟨b, o, rfl, hcell⟩
      have hBytD : BytS w1 (if ca = at' then some (⟨b, o, none⟩ : Addr) else some ⟨b, o + at', none⟩) (l.drop at') := by
        by_cases hca : ca = at'
        · exact Or.inl ⟨List.drop_eq_nil_of_le (by have := HN.out; omega), trivial⟩
        · rw [if_neg hca]
          refine Or.inr ⟨b, o + at', rfl, fun i hi => ?_⟩
          rw [List.length_drop] at hi
          rw [List.getElem_drop, Nat.add_assoc]
          exact hcell (at' + i) (by omega)
      have hl1 : (l.take at').length = at' := by rw [List.length_take, ← HN.out]; omega
      have hl2 : (l.drop at').length = n - at' := by rw [List.length_drop, ← HN.out]
      obtain ⟨SA, hSA⟩ : ∃ S : ByteArray, S = ⟨(l.take at').toArray⟩ := ⟨_, rfl⟩
      obtain ⟨SB, hSB⟩ : ∃ S : ByteArray, S = ⟨(l.drop at').toArray⟩ := ⟨_, rfl⟩
      have hsA : SA.size = at' := by rw [← len_eq, hSA]; exact hl1
      have hsB : SB.size = n - at' := by rw [← len_eq, hSB]; exact hl2
      have kA : ∀ q, (convert 22 9 (.slice (some ⟨b, o, none⟩) at' ca)).run Tryd.prog (w1.drewN q) = .ok (.string SA) (w1.drewN q) := fun q => by
        have := BytS.conv (w := w1.drewN q) (hByt.take at') ca
        rw [hl1, ← hSA] at this; exact this
      have kB : ∀ q, (convert 22 9 (.slice (if ca = at' then some (⟨b, o, none⟩ : Addr) else some ⟨b, o + at', none⟩) (n - at') (ca - at'))).run Tryd.prog (w1.drewN q) = .ok (.string SB) (w1.drewN q) := fun q => by
        have := BytS.conv (w := w1.drewN q) hBytD (ca - at')
        rw [hl2, ← hSB] at this; exact this
      obtain ⟨j, hj⟩ : ∃ j, j = bl % 4 := ⟨_, rfl⟩
      have hj4 : j < 4 := by omega
      have hji : ((bl : Int) % 4) = (j : Int) := by omega
      have htm : (bl : Int).tmod 4 = (j : Int) := (Int.tmod_eq_emod_of_nonneg (by omega)).trans (by omega)
      have hj5 : (j : Int) + 1 ≤ 4 := by omega
      have hj6 : (j : Int) + 1 ≤ 255 := by omega
      have hwr : IntKind.u8.wrap ((j : Int) + 1) = (j : Int) + 1 := by rw [IntKind.wrap_u8]; omega
      have hsE : ((⟨#[9, 10, 13, 32]⟩ : ByteArray).extract j (j + 1)).size = 1 := by rw [ByteArray.size_extract]; show min (j + 1) 4 - j = 1; omega
      have hs1 : (SA ++ (⟨#[9, 10, 13, 32]⟩ : ByteArray).extract j (j + 1)).size = at' + 1 := by rw [ByteArray.size_append, hsA, hsE]
      have hs3 : (SA ++ (⟨#[9, 10, 13, 32]⟩ : ByteArray).extract j (j + 1) ++ SB).size = at' + 1 + (n - at') := by rw [ByteArray.size_append, hs1, hsB]
      have hat2 : at' ≤ 2000 := by omega
      have hmn : min (j + 1) 4 - j = 1 := by omega
      have hlim1 : ¬ 9223372036854775807 < at' + (min (j + 1) 4 - j) := by omega
      have hlim2 : ¬ 9223372036854775807 < at' + 1 := by omega
      have hlim3 : ¬ 9223372036854775807 < at' + (min (j + 1) 4 - j) + (n - at') := by omega
      have hlim4 : ¬ 9223372036854775807 < at' + 1 + (n - at') := by omega
      have hj7 : (j : Int) ≤ (j : Int) + 1 := by omega
      have HSA := Lib.hid hSA; have HSB := Lib.hid hSB
      have hatn : (at' : Int) ≤ (n : Int) := by omega
      have hatc : (at' : Int) ≤ (ca : Int) := by omega
      have hnc : (n : Int) ≤ (ca : Int) := by omega
      clear hSA hSB hcell hByt hBytD hl1 hl2 hj x0 x1 x2 x3
      go_quiet (fail)
      obtain ⟨bb, hbb, hblk⟩ := blanks_blk j hj4
      have hE : ((⟨#[9, 10, 13, 32]⟩ : ByteArray).extract j (j + 1)).data.toList = [bb] := by
        have := ext_mid (⟨#[9, 10, 13, 32]⟩ : ByteArray) j 1
        rw [this]
        match j, hj4 with
        | 0, _ => simp [blanksL] at hbb; simp [hbb]
        | 1, _ => simp [blanksL] at hbb; simp [hbb]
        | 2, _ => simp [blanksL] at hbb; simp [hbb]
        | 3, _ => simp [blanksL] at hbb; simp [hbb]
      have HS : Hid ((SA ++ (⟨#[9, 10, 13, 32]⟩ : ByteArray).extract j (j + 1) ++ SB).data.toList = l.take at' ++ bb :: l.drop at') := Lib.hid (by
        rw [ByteArray.data_append, ByteArray.data_append, Array.toList_append, Array.toList_append, hE, HSA.out, HSB.out]; simp)
      have HM : Hid (lexS (l.take at' ++ bb :: l.drop at') = .ok (ts.take (wh % nt) ++ (ts.drop (wh % nt)).map (shiftT 1))) := Lib.hid (by
        rw [lexS_lx, HAT.out]; exact lx_blanks hblk HA0.out HT.out (by rw [← HAT.out, ← HN.out]; exact hpl))
      have HX' : Hid (∀ q, TokS (w1.drewN q) (some ⟨bx, ox, none⟩) ts) := Lib.hid (fun q => Or.inr ⟨bx, ox, rfl, HX.out⟩)
      have HB2 := Lib.hid (hb1.trans ((below_drewN w1 nq).mono hb1.size))
      have HLEN : Hid ((l.take at' ++ bb :: l.drop at').length = at' + 1 + (n - at')) := Lib.hid (by rw [List.length_append, List.length_cons, List.length_take, List.length_drop, ← HN.out]; omega)
      have HTX := Lib.hid (HX'.out nq)
      clear hE hbb hblk
      generalize (SA ++ (⟨#[9, 10, 13, 32]⟩ : ByteArray).extract j (j + 1) ++ SB) = S at *
      clear kA kB HSA HSB hs1 hsE hmn
      generalize w1.drewN nq = w2 at *
      have kS := fun s => Lib.run_convert_string_bytes (P := Tryd.prog) w2 9 22 5 s (u := .string) Tryd.underlying9 Tryd.underlying22 Tryd.underlying5
      go_wp2_with fail
      all_goals
        refine (third_ok w2 S _ _ _ _ HS.out HLEN.out (by omega) (HW.out.below HB2.out) HM.out).mono ?_; rintro e w3 ⟨AZ, cz, rfl, htz, hb3⟩
        rw [blanks_len, ← HNT.out]
        have HB3 := Lib.hid (below_next HB2.out hb3)
        obtain ⟨bx', ox', hxe, hx⟩ := toks_block (HTX.out.below hb3) (fun e => by have := HNT.out; rw [e] at this; simp at this; omega)
        injection hxe with hxe
        injection hxe with hxe1 hxe2 _
        subst hxe1 hxe2
        obtain ⟨bz, oz, rfl, hz⟩ := toks_block htz (fun e => by have := congrArg List.length e; rw [blanks_len, ← HNT.out] at this; simp at this; omega)
        have HXX := Lib.hid hx; have HZ := Lib.hid hz
        clear htz hx hz hb3 kS hs3
        go_wp2_with fail
        go_loopw [15] (fun i wr => ∃ k : Nat, k ≤ nt ∧ i = .int .i64 k ∧ Below w3.heap.size w3 wr) (fun i _ => nt - (intOf i).toNat)
        case atStart => exact ⟨0, Nat.zero_le _, rfl, Below.refl _ _⟩
        case round =>
          obtain ⟨k, hk, rfl, hbr⟩ := hrel
          by_cases hlt : k < nt
          · obtain ⟨u, hu⟩ : ∃ u, ts[k]? = some u := ⟨_, List.getElem?_eq_getElem (by rw [← HNT.out]; exact hlt)⟩
            have hzu := blanks_at HA0.out HT.out hu
            have hub := lx_place HA0.out u (List.mem_of_getElem? hu)
            rw [Nat.zero_add, ← HN.out] at hub
            obtain ⟨y0, y1, y2, y3⟩ := (HXX.out k u hu).below hbr
            have hz4 := (HZ.out k _ hzu).below hbr
            rw [← HAT.out] at hz4
            have hbx := cell_lt' y0
            by_cases hge : at' ≤ u.at'
            · rw [if_pos hge] at hz4
              obtain ⟨z0, z1, z2, z3⟩ := hz4
              have z0' : wr.cell? ⟨bz, oz + k * 4, none⟩ = some (.int .u8 u.kind) := z0
              have z1' : wr.cell? ⟨bz, oz + k * 4 + 1, none⟩ = some (.string ⟨u.text.toArray⟩) := z1
              have z3' : wr.cell? ⟨bz, oz + k * 4 + 3, none⟩ = some (.int .i64 ((u.at' : Int) + 1)) := z3
              clear z0 z1 z2 z3 hzu hu
              go_upto_region 21 with fail
              go_quiet (fail)
              go_wp2_with fail
              go_roundw
              case rel => exact ⟨k + 1, by omega, by go_num, hbr.trans ((below_drewN _ nq).mono hbr.size)⟩
              case measure => simp [intOf]; omega
            · rw [if_neg hge] at hz4
              obtain ⟨z0, z1, z2, z3⟩ := hz4
              clear z2 hzu hu
              go_upto_region 21 with fail
              go_quiet (fail)
              go_wp2_with fail
              go_roundw
              case rel => exact ⟨k + 1, by omega, by go_num, hbr.trans ((below_drewN _ nq).mono hbr.size)⟩
              case measure => simp [intOf]; omega
          · have HB5 := Lib.hid (below_next HB3.out hbr)
            go_wp2_with (go_at_call 9; refine (works_any _ (HW.out.below HB5.out)).mono ?_; rintro e w4 ⟨rfl, hb4⟩)
            go_ret
            exact ⟨rfl, below_next HB5.out hb4⟩
end Go.Proofs.YtdbkchngpbahaaaDoor
