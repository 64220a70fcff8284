/- The walk over LexSpelled: whatever the source, it answers true. By an AI agent. -/
import Derived.Test.YtdbkchngpbahaaaDoorBlanksWalk
import Derived.Test.YtdbkchngpbahaaaDoorSpelled
namespace Go.Proofs.YtdbkchngpbahaaaDoor
open Go.RowKit

theorem texts_cons (t : Tok) (x : List Tok) : texts (t :: x) = if good t then t.text :: texts x else texts x := by
  unfold texts; rw [List.filter_cons]; split <;> simp
theorem lx_sum {l : List UInt8} {p : Nat} {ts : List Tok} (h : lx l p = .ok ts) : Lib.lens (texts ts) ≤ l.length ∧ (texts ts).length ≤ l.length := by
  have : ∀ l p, ∀ ts, lx l p = .ok ts → Lib.lens (texts ts) ≤ l.length ∧ (texts ts).length ≤ l.length := by
    refine lx_rec (fun p ts h => ?_) (fun c r p hb ih ts h => ?_) (fun c r p e' hb ht ts h => ?_) (fun c r p k n v hb ht ih ts h => ?_)
    · rw [lx_nil] at h; injection h with h; subst h; exact ⟨by simp [texts, good, Lib.lens], by simp [texts, good]⟩
    · rw [lx_blk hb] at h; have := ih ts h; rw [List.length_cons]; omega
    · rw [lx_err hb ht] at h; cases h
    · rw [lx_tok hb ht] at h
      cases hx : lx ((c :: r).drop n) (p + n) with
      | error e' => rw [hx] at h; cases h
      | ok x =>
        rw [hx] at h; injection h with h; subst h
        have hl := tokAt_len ht
        have := ih x hx
        rw [List.length_drop] at this
        rw [texts_cons]
        split
        · simp only [Lib.lens, List.map_cons, List.sum_cons, List.length_cons, List.length_take] at this ⊢
          simp only [List.length_cons] at hl
          omega
        · omega
  exact this l p ts h
theorem spell_short {l : List UInt8} {ts : List Tok} (h : lexS l = .ok ts) : (spellL ts).length ≤ 2 * l.length := by
  obtain ⟨h1, h2⟩ := lx_sum (show lx l 0 = .ok ts from h)
  unfold spellL
  cases ht : texts ts with
  | nil => rw [Lib.join_nil]; simp
  | cons x r =>
    rw [ht] at h1 h2
    rw [Lib.join_length]
    simp only [List.length_cons, List.length_nil] at h2 ⊢
    omega

theorem blk_cases {b : UInt8} (h : isBlk b = true) : (b.toNat : Int) = 9 ∨ (b.toNat : Int) = 10 ∨ (b.toNat : Int) = 13 ∨ (b.toNat : Int) = 32 := by
  unfold isBlk at h
  simp only [Bool.or_eq_true, beq_iff_eq] at h
  rcases h with ((rfl | rfl) | rfl) | rfl
  · exact Or.inr (Or.inr (Or.inr rfl))
  · exact Or.inl rfl
  · exact Or.inr (Or.inr (Or.inl rfl))
  · exact Or.inr (Or.inl rfl)

set_option maxRecDepth 100000 in
set_option maxHeartbeats 8000000 in
theorem spelled_big (a : Option Addr) (na ca : Nat) (w : World) (hw : EW w) (h : 2000 < na) :
    Calls Tryd.prog 4 #[.slice a na ca] w fun e w' => e = .returned (.bool true) ∧ Below w.heap.size w w' := by
  have HW := Lib.hid hw; clear hw
  have h1' : (2000 : Int) < (na : Int) := by omega
  clear h
  go_enter Tryd.func4, Tryd.ntmps4
  go_wp2_with fail
  refine (works_any _ HW.out).mono ?_; rintro e w1 ⟨rfl, hb1⟩
  go_wp2_with fail
  go_ret
  exact ⟨rfl, hb1⟩
set_option maxRecDepth 100000 in
set_option maxHeartbeats 8000000 in
theorem spelled_bad (a : Option Addr) (ca : Nat) (l : List UInt8) (p : Nat) (er : Int) (w : World) (hw : EW w) (hn : l.length ≤ 2000) (ha : BytS w a l) (hA : lexS l = .error (p, er)) :
    Calls Tryd.prog 4 #[.slice a l.length ca] w fun e w' => e = .returned (.bool true) ∧ Below w.heap.size w w' := by
  have HW := Lib.hid hw; have HA := Lib.hid ha; clear hw ha
  obtain ⟨n, hn'⟩ : ∃ n, n = l.length := ⟨_, rfl⟩
  have HN := Lib.hid hn'
  rw [← hn'] at hn ⊢
  have h1' : ¬ (2000 : Int) < (n : Int) := by omega
  clear hn'
  have her : ((er : Int) == 0) = false := by rcases lx_code hA with rfl | rfl <;> rfl
  have hern : ¬ (er : Int) = 0 := by rcases lx_code hA with rfl | rfl <;> decide
  have HLA := Lib.hid (lex_bad a ca l p er w (by rw [← HN.out]; omega) HA.out HW.out hA)
  rw [← HN.out] at HLA
  clear hA
  go_enter Tryd.func4, Tryd.ntmps4
  go_wp2_with fail
  refine HLA.out.mono ?_; rintro e w1 ⟨rfl, hb1⟩
  go_wp2_with fail
  refine (works_any _ (HW.out.below hb1)).mono ?_; rintro e w2 ⟨rfl, hb2⟩
  go_wp2_with fail
  go_ret
  exact ⟨rfl, below_next hb1 hb2⟩
theorem spell_v (a : Option Addr) (n c : Nat) (ts : List Tok) (S : ByteArray) (w : World) (hl : ts.length = n) (hn : n ≤ 1000000) (hlen : (spellL ts).length ≤ 1000000) (h : TokS w a ts) (hS : S = ⟨(spellL ts).toArray⟩) :
    Calls Tryd.prog 13 #[.slice a n c] w fun e w' => e = .returned (.string S) ∧ Below w.heap.size w w' := by
  subst hl hS; exact spell_any a c ts w hn (by omega) h

set_option maxRecDepth 100000 in
set_option maxHeartbeats 16000000 in
theorem spelled_some (b o ca : Nat) (l : List UInt8) (ts : List Tok) (w : World) (hw : EW w) (hn : l.length ≤ 2000) (hc : l.length ≤ ca) (hcm : ca ≤ 9223372036854775807) (hcell : ∀ i (h : i < l.length), w.cell? ⟨b, o + i, none⟩ = some (.int .u8 l[i].toNat)) (hA : lexS l = .ok ts) :
    Calls Tryd.prog 4 #[.slice (some ⟨b, o, none⟩) l.length ca] w fun e w' => e = .returned (.bool true) ∧ Below w.heap.size w w' := by
  have HW := Lib.hid hw; have HCELL := Lib.hid hcell
  have HA : Hid (BytS w (some ⟨b, o, none⟩) l) := Lib.hid (Or.inr ⟨b, o, rfl, hcell⟩)
  clear hw hcell
  obtain ⟨n, hn'⟩ : ∃ n, n = l.length := ⟨_, rfl⟩
  have HN := Lib.hid hn'
  rw [← hn'] at hn hc ⊢
  have h1' : ¬ (2000 : Int) < (n : Int) := by omega
  clear hn'
  have hne := lx_ne (show lx l 0 = .ok ts from hA)
  have htl := lx_many (show lx l 0 = .ok ts from hA)
  rw [← HN.out] at htl
  have hsl := spell_short hA
  rw [← HN.out] at hsl
  obtain ⟨bs, hB, hst⟩ := spelled_same hA
  have HSP0 := Lib.hid (lx_spaced hA)
  have HLA := Lib.hid (lex_ok (some ⟨b, o, none⟩) ca l ts w (by rw [← HN.out]; omega) HA.out HW.out hA)
  rw [← HN.out] at HLA
  obtain ⟨nt, hnt⟩ : ∃ k, k = ts.length := ⟨_, rfl⟩
  have HNT := Lib.hid hnt
  have hnb : bs.length = nt := by have := congrArg List.length hst; rw [List.length_map, List.length_map] at this; omega
  have HNB := Lib.hid hnb
  have HB := Lib.hid hB
  have HST := Lib.hid hst
  have hnt0 : 0 < nt := by rw [hnt]; exact List.length_pos_iff.2 hne
  have HNE := Lib.hid hne
  have hnbe : bs ≠ [] := fun e => by rw [e] at hnb; simp at hnb; omega
  have HNBE := Lib.hid hnbe
  obtain ⟨S, hS⟩ : ∃ S : ByteArray, S = ⟨(spellL ts).toArray⟩ := ⟨_, rfl⟩
  have HS := Lib.hid hS
  have HSL : Hid (S.data.toList = spellL ts) := Lib.hid (by rw [hS])
  obtain ⟨m, hm⟩ : ∃ m, S.size = m := ⟨_, rfl⟩
  have hml : (spellL ts).length = m := by rw [← hm, ← len_eq, HSL.out]
  have HML := Lib.hid hml
  rw [hml] at hsl
  rw [← hnt] at htl
  have g1 : ((nt : Int) == 0) = false := by rw [beq_eq_false_iff_ne]; omega
  have g1' : ¬ (nt : Int) = 0 := by omega
  clear hA hne hnt hnb hB hst hnbe hS hml
  go_enter Tryd.func4, Tryd.ntmps4
  go_wp2_with fail
  refine HLA.out.mono ?_; rintro e w1 ⟨AX, cx, rfl, htx, hb1⟩
  rw [← HNT.out]
  have HTX := Lib.hid htx
  have HB1 := Lib.hid hb1
  clear htx hb1 HLA
  go_wp2_with fail
  refine (spell_v AX nt cx ts S _ HNT.out.symm (by omega) (by rw [HML.out]; omega) HTX.out HS.out).mono ?_; rintro e w2 ⟨rfl, hb2⟩
  have HB2 := Lib.hid (below_next HB1.out hb2)
  have HTX2 := Lib.hid (HTX.out.below hb2)
  have kS := Lib.run_convert_string_bytes (P := Tryd.prog) w2 9 22 5 S (u := .string) Tryd.underlying9 Tryd.underlying22 Tryd.underlying5
  rw [hm] at kS
  clear hb2 HTX
  go_wp2_with fail
  refine (third_ok w2 S (spellL ts) m _ bs HSL.out HML.out (by omega) (HW.out.below HB2.out) HB.out).mono ?_; rintro e w3 ⟨AZ, cz, rfl, htz, hb3⟩
  rw [HNB.out]
  have HB3 := Lib.hid (below_next HB2.out hb3)
  obtain ⟨bx, ox, rfl, hx⟩ := toks_block (HTX2.out.below hb3) HNE.out
  obtain ⟨bz, oz, rfl, hz⟩ := toks_block htz HNBE.out
  have HX := Lib.hid hx; have HZ := Lib.hid hz
  have HA3 := Lib.hid (HA.out.below HB3.out)
  clear kS htz hx hz hb3 HTX2 hm
  go_wp2_with fail
  have HC3 : Hid (∀ wr, Below w3.heap.size w3 wr → ∀ i (h : i < l.length), wr.cell? ⟨b, o + i, none⟩ = some (.int .u8 l[i].toNat)) := Lib.hid (fun wr hbr i h => by
    have h1 := HCELL.out i h
    have hb := below_next HB3.out hbr
    exact (hb.cell (p := ⟨b, _, none⟩) (cell_lt' h1)).trans h1)
  go_loopw [9, 10] (fun nx i wr => ∃ k q : Nat, k ≤ nt ∧ i = .int .i64 k ∧ nx = .int .i64 q ∧ Below w3.heap.size w3 wr ∧ Hid (Spaced l q (ts.drop k))) (fun _ i _ => nt - (intOf i).toNat)
  case atStart => exact ⟨0, 0, Nat.zero_le _, rfl, rfl, Below.refl _ _, HSP0⟩
  case round =>
    obtain ⟨k, q, hk, rfl, rfl, hbr, HSP⟩ := hrel
    by_cases hlt : k < nt
    · obtain ⟨t, ht⟩ : ∃ t, ts[k]? = some t := ⟨_, List.getElem?_eq_getElem (by rw [← HNT.out]; exact hlt)⟩
      obtain ⟨u, hu⟩ : ∃ u, bs[k]? = some u := ⟨_, List.getElem?_eq_getElem (by rw [HNB.out]; exact hlt)⟩
      have hsu : strip u = strip t := by
        have := congrArg (·[k]?) HST.out
        simp only [List.getElem?_map, ht, hu, Option.map_some] at this
        injection this
      have hs1 : u.kind = t.kind := congrArg (·.1) hsu
      have hs2 : u.text = t.text := congrArg (·.2.1) hsu
      have hs3 : u.n = t.n := congrArg (·.2.2) hsu
      obtain ⟨x0, x1, x2, x3⟩ := (HX.out k t ht).below hbr
      obtain ⟨z0, z1, z2, z3⟩ := (HZ.out k u hu).below hbr
      rw [hs1] at z0
      rw [hs2] at z1
      rw [hs3] at z2
      have hdr : ts.drop k = t :: ts.drop (k + 1) := by
        obtain ⟨hi, rfl⟩ := List.getElem?_eq_some_iff.1 ht
        exact List.drop_eq_getElem_cons hi
      rw [hdr] at HSP
      obtain ⟨s1, s2, s3, s4, s5, s6⟩ := HSP.out
      have hlast : ts.drop (k + 1) = [] ↔ k + 1 = nt := by
        rw [List.drop_eq_nil_iff, ← HNT.out]; omega
      rw [hlast] at s4
      rw [← HN.out] at s2
      have HS3 := Lib.hid s3; have HS5 := Lib.hid s5; have HS6 := Lib.hid s6
      obtain ⟨at', hat⟩ : ∃ p, p = t.at' := ⟨_, rfl⟩
      obtain ⟨ln, hln⟩ : ∃ p, p = t.text.length := ⟨_, rfl⟩
      obtain ⟨tx, htx⟩ : ∃ s : ByteArray, s = ⟨t.text.toArray⟩ := ⟨_, rfl⟩
      have htxs : tx.size = ln := by rw [htx, hln, ← len_eq]
      have hcv : BytS wr (if ca = at' then some (⟨b, o, none⟩ : Addr) else some ⟨b, o + at', none⟩) t.text := by
        by_cases hca : ca = at'
        · refine Or.inl ⟨List.eq_nil_of_length_eq_zero ?_, trivial⟩
          omega
        · rw [if_neg hca]
          refine Or.inr ⟨b, o + at', rfl, fun i hi => ?_⟩
          have hi2 : at' + i < l.length := by rw [← HN.out]; omega
          have e : t.text[i] = l[at' + i] := by
            have : t.text[i]? = l[at' + i]? := by
              conv => lhs; rw [← HS3.out]
              rw [List.getElem?_take_of_lt (by omega), List.getElem?_drop, ← hat]
            rw [List.getElem?_eq_getElem hi, List.getElem?_eq_getElem hi2] at this
            injection this
          rw [e, Nat.add_assoc]
          exact HC3.out wr hbr (at' + i) hi2
      have kB : ∀ g, (convert 22 9 (.slice (if ca = at' then some (⟨b, o, none⟩ : Addr) else some ⟨b, o + at', none⟩) ln (ca - at'))).run Tryd.prog (wr.drewN g) = .ok (.string tx) (wr.drewN g) := fun g => by
        have := BytS.conv (w := wr.drewN g) (l := t.text) hcv (ca - at')
        rw [← hln, ← htx] at this; exact this
      rw [← htx] at x1 z1
      rw [← hat] at x3 s1 s2
      rw [← hln] at s2
      have HAT := Lib.hid hat; have HLN := Lib.hid hln
      have hk0 : (0 : Int) ≤ (k : Int) := by omega
      have hk1 : (k : Int) < (nt : Int) := by omega
      have hq1 : ¬ at' < q := by omega
      have hq2 : ¬ (at' : Int) < (q : Int) := by omega
      have hq3 : ¬ (n : Int) < (at' : Int) + (ln : Int) := by omega
      have hq4 : ¬ n < at' + ln := by omega
      have hq5 : (at' : Int) ≤ (at' : Int) + (ln : Int) := by omega
      have hq6 : (at' : Int) + (ln : Int) ≤ (ca : Int) := by omega
      have hq7 : (at' : Int) + (ln : Int) ≤ 2000 := by omega
      clear hat hln htx hs1 hs2 hs3 hsu ht hu hdr hlast s3 s5 s6 hcv z3
      have hend : Hid (((k : Int) == (nt : Int) - 1) = ((t.kind : Int) == 5)) := Lib.hid (by
        rw [Bool.eq_iff_iff, beq_iff_eq, beq_iff_eq]
        constructor
        · intro h; have := s4.2 (by omega); omega
        · intro h; have := s4.1 (by omega); omega)
      cases hk5 : ((t.kind : Int) == 5)
      all_goals
        have he := hend.out
        rw [hk5] at he
        clear s4
        go_upto_region 13 with fail
        go_quiet (fail)
        go_upto_region 15 with fail
        go_quiet (fail)
        clear kB
        generalize (if ca = at' then some (⟨b, o, none⟩ : Addr) else some ⟨b, o + at', none⟩) = AD at *
        go_wp2_with fail
        go_loop [11] (fun j => ∃ m : Nat, q ≤ m ∧ m ≤ at' ∧ j = .int .i64 m) (fun j => at' - (intOf j).toNat)
        case atStart => exact ⟨q, Nat.le_refl _, s1, rfl⟩
        case round =>
          obtain ⟨m', hm1, hm2, rfl⟩ := hrel
          by_cases hmt : m' < at'
          · obtain ⟨bb, hbb, hblk⟩ := HS5.out m' hm1 (by rw [← HAT.out]; exact hmt)
            obtain ⟨hml, hme⟩ := List.getElem?_eq_some_iff.1 hbb
            have hcm := HC3.out wr hbr m' hml
            rw [hme] at hcm
            have hm0 : (0 : Int) ≤ (m' : Int) := by omega
            have hm3 : (m' : Int) < (n : Int) := by omega
            have hbc := blk_cases hblk
            clear hbb hblk hme hml
            rcases hbc with hbc | hbc | hbc | hbc
            all_goals
              rw [hbc] at hcm
              clear hbc
              go_wp2_with fail
              go_round
              case rel => exact ⟨m' + 1, by omega, by omega, by go_num⟩
              case measure => simp [intOf]; omega
          · obtain rfl : m' = at' := by omega
            go_upto_region 22 with fail
            go_quiet (fail)
            go_wp2_with fail
            go_roundw
            case rel =>
              refine ⟨k + 1, m' + ln, by omega, by go_num, by go_num, ?_, Lib.hid (by rw [HAT.out, HLN.out]; exact HS6.out)⟩
              first
                | exact hbr.trans ((below_drewN _ _).mono hbr.size)
                | exact hbr.trans ((((below_drewN wr _).trans (below_drewN _ _)).trans (below_drewN _ _)).mono hbr.size)
                | exact (hbr.trans ((below_drewN wr _).mono hbr.size)).trans (((below_drewN _ _).trans (below_drewN _ _)).mono hbr.size)
            case measure => simp [intOf]; omega
    · have hkn : ts.drop k = [] := List.drop_eq_nil_of_le (by rw [← HNT.out]; omega)
      rw [hkn] at HSP
      have hq : q = l.length := HSP.out
      have hqn : q = n := by rw [hq, ← HN.out]
      have HBR := Lib.hid (below_next HB3.out hbr)
      clear HSP hkn hq hbr
      subst hqn
      go_wp2_with fail
      refine (works_any _ (HW.out.below HBR.out)).mono ?_; rintro e w6 ⟨rfl, hb6⟩
      go_wp2_with fail
      go_ret
      exact ⟨rfl, below_next HBR.out hb6⟩
end Go.Proofs.YtdbkchngpbahaaaDoor
