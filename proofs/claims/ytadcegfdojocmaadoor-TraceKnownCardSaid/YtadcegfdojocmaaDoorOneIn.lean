/- The walk over the reference's one at a part that begins with a kind's letter. By an AI agent. -/
import Derived.Test.YtadcegfdojocmaaDoorOne
import Derived.Deep.RegionWith
namespace Go.Proofs.YtadcegfdojocmaaDoor
open Go.RowKit

/-- The letter of the kind behind j. -/
theorem letter_rp (j : Nat) (h : j < 4) : letterB (j + 1) = [rp j] := by
  match j, h with
  | 0, _ => rfl
  | 1, _ => rfl
  | 2, _ => rfl
  | 3, _ => rfl
theorem wrap_ok (x : Int) : i64ok (wrap64 x) := by unfold wrap64 i64ok; omega

theorem tail_of {s : ByteArray} {c : UInt8} {t : List UInt8} (h : s.data.toList = c :: t) : (s.extract 1 s.size).toList = t := by
  have e : s = ⟨(c :: t).toArray⟩ := by rw [← h]
  subst e
  rw [show (⟨(c :: t).toArray⟩ : ByteArray).size = t.length + 1 by rw [Lib.size_eq]; simp, Lib.toList_data]
  simp
theorem byte_at {s : ByteArray} {c : UInt8} {t : List UInt8} (h : s.data.toList = c :: t) (p : Nat) (h1 : 1 ≤ p) (hp : p < s.size) : t[p - 1]? = some s[p] := by
  have h2 : s.data.toList[p]? = some s[p] := Lib.data_getElem? s p hp
  rw [h] at h2
  obtain ⟨p', rfl⟩ : ∃ p', p = p' + 1 := ⟨p - 1, by omega⟩
  simpa using h2
theorem plus_step {c d : UInt8} {t : List UInt8} {κ k : Nat} {ν : Int} (hl : letterB (κ + 1) = [c]) (hm : ∀ r, t ≠ 45 :: r) (hd : t[k]? = some d) (hinv : ∀ x, isPart (c :: t) (κ + 1) x → ν = (val t k : Nat)) :
    ∀ x, isPart (c :: t) (κ + 1) x → wrap64 (wrap64 (ν * 10) + ((d.toNat : Int) - 48)) = (val t (k + 1) : Nat) := by
  intro x hx
  have hν := hinv x hx
  obtain ⟨u, rfl, hu, ht⟩ := part_plus hl hm hx
  obtain ⟨hk, hdk⟩ := List.getElem?_eq_some_iff.1 hd
  have hs := val_succ t k hk
  have hle := val_le u (k + 1)
  rw [← ht] at hle
  have hdig : isDig d := by rw [← hdk]; exact dec_dig u _ (by rw [← ht]; exact List.getElem_mem hk)
  unfold isDig at hdig
  rw [hdk] at hs
  generalize val t (k + 1) = A at *
  generalize val t k = B at *
  subst hν
  rw [IntWalk.wrap64_in ((B : Int) * 10) ⟨by omega, by omega⟩, IntWalk.wrap64_in _ ⟨by omega, by omega⟩]
  omega

set_option maxRecDepth 100000 in
set_option maxHeartbeats 8000000 in
/-- No minus behind the letter. -/
theorem one_plus (s : ByteArray) (κ : Nat) (t : List UInt8) (w : World) (hs : s.size ≤ 100000) (h0 : 0 < s.size) (hκ : κ < 4) (hL : s.data.toList = rp κ :: t) (hm : ∀ r, t ≠ 45 :: r) :
    Calls Tryd.prog 38 #[.string s] w fun e w' => OneOut s.data.toList e ∧ Below w.heap.size w w' := by
  have hlet := letter_rp κ hκ
  have hat : s[0] = rp κ := by
    have h2 : s.data.toList[0]? = some s[0] := Lib.data_getElem? s 0 h0
    rw [hL] at h2; simp at h2; exact h2.symm
  have hne : ∀ j, j < κ → s[0] ≠ rp j := fun j hj e => by
    rw [hat] at e
    have h1 := letter_rp j (by omega)
    rw [← e, ← hlet] at h1
    have := letter_inj (by omega) (by omega) (by omega) (by omega) h1
    omega
  have HN := Lib.hid hne; have HA := Lib.hid hat; have HL := Lib.hid hL; have HM := Lib.hid hm; have HLET := Lib.hid hlet
  clear hne hat hL hm hlet
  have he := str_full h0
  have hsz : s.size = t.length + 1 := by rw [Lib.size_eq, HL.out]; simp
  have hmin : (decide ((1 : Int) < (s.size : Int)) = false) ∨ (∃ h : 1 < s.size, decide ((1 : Int) < (s.size : Int)) = true ∧ ((s[1].toNat : Int) == 45) = false) := by
    by_cases h : 1 < s.size
    · refine Or.inr ⟨h, by simp; omega, ?_⟩
      rw [beq_eq_false_iff_ne]
      intro e
      have h2 : s.data.toList[1]? = some s[1] := Lib.data_getElem? s 1 h
      rw [HL.out] at h2
      cases ht : t with
      | nil => rw [ht] at h2; simp at h2
      | cons x r =>
        rw [ht] at h2; simp at h2
        exact HM.out r (by rw [ht, h2]; congr 1; exact UInt8.toNat_inj.1 (by simp; omega))
    · exact Or.inl (by simp; omega)
  have HSZ := Lib.hid hsz; have HMIN := Lib.hid hmin
  clear hsz hmin
  go_enter Tryd.func38, Tryd.ntmps38
  go_wp2_with fail
  go_loopw [4] (fun k wr => ∃ j q : Nat, j ≤ κ ∧ k = .int .i64 j ∧ wr = (w.alloc (.cells #[.int .u8 0, .int .i64 0] 44)).drewN q) (fun k _ => 4 - (intOf k).toNat)
  case atStart => exact ⟨0, 0, Nat.zero_le _, rfl, rfl⟩
  case round =>
    obtain ⟨j, q, hj, rfl, rfl⟩ := hrel
    have hj0 : (0 : Int) ≤ (j : Int) := by omega
    have hj4 : (j : Int) < 4 := by omega
    have hd : decide ((j : Int) < 4) = true := by simp; omega
    by_cases hlt : j < κ
    · have hb := ne_lit (HN.out j hlt)
      rw [← rp_at j (by omega)] at hb
      go_wp2_with fail
      go_quiet (fail)
      go_wp2_with fail
      go_roundw
      case rel => exact ⟨j + 1, q + nq, by omega, by go_num, rfl⟩
      case measure => simp [intOf]; omega
    · obtain rfl : j = κ := by omega
      have hb := eq_lit HA.out
      rw [← rp_at j (by omega)] at hb
      have hj5 : ((j : Int) == 4) = false := beq_eq_false_iff_ne.2 (by omega)
      rcases HMIN.out with hm | ⟨h1, hm, hm2⟩
      all_goals
        go_wp2_with fail
        go_quiet (fail)
        go_wp2_with fail
        obtain ⟨wq, hwq⟩ : ∃ wq, wq = (w.alloc (.cells #[.int .u8 0, .int .i64 0] 44)).drewN (q + nq) := ⟨_, rfl⟩
        rw [← hwq]
        have HWQ := Lib.hid hwq
        clear hwq hb hd hj5 hm
        go_loop [5, 8] (fun n i => ∃ (p : Nat) (ν : Int), 1 ≤ p ∧ p ≤ s.size ∧ i = .int .i64 p ∧ n = .int .i64 ν ∧ i64ok ν ∧ Hid (∀ x, isPart (rp j :: t) (j + 1) x → ν = (val t (p - 1) : Nat))) (fun _ i => s.size - (intOf i).toNat)
        case atStart => exact ⟨1, 0, Nat.le_refl _, by omega, rfl, rfl, by unfold i64ok; omega, Lib.hid (fun x _ => rfl)⟩
        case round =>
          obtain ⟨p, ν, hp1, hps, rfl, rfl, hν, HINV⟩ := hrel
          by_cases hpl : p < s.size ∧ p < 22
          · have hd1 : decide ((p : Int) < (s.size : Int)) = true := by simp; omega
            have hd2 : decide ((p : Int) < 22) = true := by simp; omega
            have hp0 : (0 : Int) ≤ (p : Int) := by omega
            have hpz : (p : Int) < (s.size : Int) := by omega
            have hbyte : s[p].toNat < 256 := s[p].toNat_lt
            by_cases hdig : 48 ≤ s[p].toNat ∧ s[p].toNat ≤ 57
            · have hc1 : decide ((s[p].toNat : Int) < 48) = false := by simp; omega
              have hc2 : decide (57 < (s[p].toNat : Int)) = false := by simp; omega
              have hstep := plus_step (κ := j) HLET.out HM.out (byte_at HL.out p hp1 hpl.1) HINV.out
              have HST := Lib.hid hstep
              clear hstep
              go_wp2_with fail
              refine ⟨⟨p + 1, _, by omega, by omega, by go_num, rfl, wrap_ok _, Lib.hid (fun x hx => by have := HST.out x hx; rw [show p + 1 - 1 = p - 1 + 1 by omega]; exact this)⟩, by simp [intOf]; omega⟩
            · have hno : oneP s.data.toList = none := by
                rw [HL.out]
                exact oneP_none fun k n hk => hdig (by
                  obtain rfl := part_kind hκ HLET.out hk
                  obtain ⟨u, _, _, rfl⟩ := part_plus HLET.out HM.out hk
                  exact dec_dig u _ (List.mem_of_getElem? (byte_at HL.out p hp1 hpl.1)))
              have HNO := Lib.hid hno
              clear hno
              have hc0 : wq.cell? ⟨w.heap.size, 0, none⟩ = some (.int .u8 0) := by rw [HWQ.out]; simp
              have hc1 : wq.cell? ⟨w.heap.size, 1, none⟩ = some (.int .i64 0) := by rw [HWQ.out]; simp
              have hf0 : wq.frozen? ⟨w.heap.size, 0, none⟩ = false := by rw [HWQ.out]; simp
              have hf1 : wq.frozen? ⟨w.heap.size, 1, none⟩ = false := by rw [HWQ.out]; simp
              by_cases hlow : s[p].toNat < 48
              · have hcl : decide ((s[p].toNat : Int) < 48) = true := by simp; omega
                clear hdig
                go_wp2_with fail
                exact bodyPost_ret (v := .tuple #[.agg #[.int .u8 0, .int .i64 0], .bool false]) (by simp [results, Tryd.results38, go_sem, hc0, hc1]) rfl ⟨Or.inr ⟨HNO.out, 0, 0, rfl⟩, by rw [HWQ.out]; exact below_two w _ _ _⟩
              · have hcl : decide ((s[p].toNat : Int) < 48) = false := by simp; omega
                have hch : decide (57 < (s[p].toNat : Int)) = true := by simp; omega
                clear hdig
                go_wp2_with fail
                exact bodyPost_ret (v := .tuple #[.agg #[.int .u8 0, .int .i64 0], .bool false]) (by simp [results, Tryd.results38, go_sem, hc0, hc1]) rfl ⟨Or.inr ⟨HNO.out, 0, 0, rfl⟩, by rw [HWQ.out]; exact below_two w _ _ _⟩
          · have hc0 : wq.cell? ⟨w.heap.size, 0, none⟩ = some (.int .u8 0) := by rw [HWQ.out]; simp
            have hc1 : wq.cell? ⟨w.heap.size, 1, none⟩ = some (.int .i64 0) := by rw [HWQ.out]; simp
            have hf0 : wq.frozen? ⟨w.heap.size, 0, none⟩ = false := by rw [HWQ.out]; simp
            have hf1 : wq.frozen? ⟨w.heap.size, 1, none⟩ = false := by rw [HWQ.out]; simp
            have hu1 : IntKind.i64.wrap ((j : Int) + 1) = (j : Int) + 1 := by
              have : j = 0 ∨ j = 1 ∨ j = 2 ∨ j = 3 := by omega
              rcases this with rfl | rfl | rfl | rfl <;> decide
            have hu2 : IntKind.u8.wrap ((j : Int) + 1) = (j : Int) + 1 := by
              have : j = 0 ∨ j = 1 ∨ j = 2 ∨ j = 3 := by omega
              rcases this with rfl | rfl | rfl | rfl <;> decide
            have hsl : (1 : Int) ≤ (s.size : Int) := by omega
            obtain ⟨bq, hbq⟩ : ∃ bq : Bool, ((s.extract 1 s.size).toList == Lib.itoa ν) = bq := ⟨_, rfl⟩
            have hend : p = s.size ∨ (p < s.size ∧ 22 ≤ p) := by omega
            have hfin : OneOut s.data.toList (.returned (.tuple #[.agg #[.int .u8 ((j : Int) + 1), .int .i64 ν], .bool bq])) := by
              rw [tail_of HL.out] at hbq
              rw [HL.out]
              cases bq with
              | true =>
                refine Or.inl ⟨j + 1, ν, oneP_some ⟨by omega, by omega, hν, ?_⟩, rfl⟩
                rw [HLET.out, eq_of_beq hbq]; rfl
              | false =>
                refine Or.inr ⟨?_, _, _, rfl⟩
                refine oneP_none fun k n hk => ?_
                obtain rfl := part_kind hκ HLET.out hk
                have hlen := part_len HLET.out hk
                obtain ⟨u, rfl, _, ht⟩ := part_plus HLET.out HM.out hk
                have hν' := HINV.out _ hk
                have hsz := HSZ.out
                rw [ht, val_all u _ (by rw [← ht]; omega)] at hν'
                rw [hν', Lib.itoa_nonneg, ht] at hbq
                simp at hbq
            have HFIN := Lib.hid hfin
            clear hfin hpl
            rcases hend with hend | ⟨he1, he2⟩
            · have hd1 : decide ((p : Int) < (s.size : Int)) = false := by simp; omega
              go_wp2_with fail
              go_region_with ((go_at_call 36; refine (digits_q ν hν.1 hν.2 _).mono ?_; rintro e w' ⟨rfl, rfl⟩))
              all_goals go_wp2_with fail
              all_goals exact bodyPost_ret (v := .tuple #[.agg #[.int .u8 ((j : Int) + 1), .int .i64 ν], .bool bq]) (by simp [results, Tryd.results38, go_sem, hc0, hc1]) rfl ⟨HFIN.out, (by rw [HWQ.out]; exact (below_two w _ _ _).drew)⟩
            · have hd1 : decide ((p : Int) < (s.size : Int)) = true := by simp; omega
              have hd2 : decide ((p : Int) < 22) = false := by simp; omega
              go_wp2_with fail
              go_region_with ((go_at_call 36; refine (digits_q ν hν.1 hν.2 _).mono ?_; rintro e w' ⟨rfl, rfl⟩))
              all_goals go_wp2_with fail
              all_goals exact bodyPost_ret (v := .tuple #[.agg #[.int .u8 ((j : Int) + 1), .int .i64 ν], .bool bq]) (by simp [results, Tryd.results38, go_sem, hc0, hc1]) rfl ⟨HFIN.out, (by rw [HWQ.out]; exact (below_two w _ _ _).drew)⟩
theorem byte_at2 {s : ByteArray} {c d : UInt8} {t : List UInt8} (h : s.data.toList = c :: d :: t) (p : Nat) (h1 : 2 ≤ p) (hp : p < s.size) : t[p - 2]? = some s[p] := by
  have h2 : s.data.toList[p]? = some s[p] := Lib.data_getElem? s p hp
  rw [h] at h2
  obtain ⟨p', rfl⟩ : ∃ p', p = p' + 2 := ⟨p - 2, by omega⟩
  simpa using h2
theorem minus_step {c d : UInt8} {t : List UInt8} {κ k : Nat} {ν : Int} (hl : letterB (κ + 1) = [c]) (hd : t[k]? = some d) (hinv : ∀ x, isPart (c :: 45 :: t) (κ + 1) x → ν = -((val t k : Nat) : Int)) :
    ∀ x, isPart (c :: 45 :: t) (κ + 1) x → wrap64 (wrap64 (ν * 10) - ((d.toNat : Int) - 48)) = -((val t (k + 1) : Nat) : Int) := by
  intro x hx
  have hν := hinv x hx
  obtain ⟨u, rfl, hu, ht⟩ := part_minus hl hx
  obtain ⟨hk, hdk⟩ := List.getElem?_eq_some_iff.1 hd
  have hs := val_succ t k hk
  have hle := val_le u (k + 1)
  rw [← ht] at hle
  have hdig : isDig d := by rw [← hdk]; exact dec_dig u _ (by rw [← ht]; exact List.getElem_mem hk)
  unfold isDig at hdig
  rw [hdk] at hs
  generalize val t (k + 1) = A at *
  generalize val t k = B at *
  subst hν
  rw [IntWalk.wrap64_in (-(B : Int) * 10) ⟨by omega, by omega⟩, IntWalk.wrap64_in _ ⟨by omega, by omega⟩]
  omega

set_option maxRecDepth 100000 in
set_option maxHeartbeats 8000000 in
/-- A minus behind the letter. -/
theorem one_minus (s : ByteArray) (κ : Nat) (t : List UInt8) (w : World) (hs : s.size ≤ 100000) (h0 : 0 < s.size) (hκ : κ < 4) (hL : s.data.toList = rp κ :: 45 :: t) :
    Calls Tryd.prog 38 #[.string s] w fun e w' => OneOut s.data.toList e ∧ Below w.heap.size w w' := by
  have hlet := letter_rp κ hκ
  have hat : s[0] = rp κ := by
    have h2 : s.data.toList[0]? = some s[0] := Lib.data_getElem? s 0 h0
    rw [hL] at h2; simp at h2; exact h2.symm
  have hne : ∀ j, j < κ → s[0] ≠ rp j := fun j hj e => by
    rw [hat] at e
    have h1 := letter_rp j (by omega)
    rw [← e, ← hlet] at h1
    have := letter_inj (by omega) (by omega) (by omega) (by omega) h1
    omega
  have HN := Lib.hid hne; have HA := Lib.hid hat; have HL := Lib.hid hL; have HLET := Lib.hid hlet
  clear hne hat hL hlet
  have he := str_full h0
  have hsz : s.size = t.length + 2 := by rw [Lib.size_eq, HL.out]; simp
  have hmin1 : 1 < s.size := by omega
  have hm : decide ((1 : Int) < (s.size : Int)) = true := by simp; omega
  have hm2 : ((s[1].toNat : Int) == 45) = true := by
    have h2 : s.data.toList[1]? = some s[1] := Lib.data_getElem? s 1 hmin1
    rw [HL.out] at h2
    simp at h2
    rw [← h2]; rfl
  have HSZ := Lib.hid hsz
  clear hsz
  go_enter Tryd.func38, Tryd.ntmps38
  go_wp2_with fail
  go_loopw [4] (fun k wr => ∃ j q : Nat, j ≤ κ ∧ k = .int .i64 j ∧ wr = (w.alloc (.cells #[.int .u8 0, .int .i64 0] 44)).drewN q) (fun k _ => 4 - (intOf k).toNat)
  case atStart => exact ⟨0, 0, Nat.zero_le _, rfl, rfl⟩
  case round =>
    obtain ⟨j, q, hj, rfl, rfl⟩ := hrel
    have hj0 : (0 : Int) ≤ (j : Int) := by omega
    have hj4 : (j : Int) < 4 := by omega
    have hd : decide ((j : Int) < 4) = true := by simp; omega
    by_cases hlt : j < κ
    · have hb := ne_lit (HN.out j hlt)
      rw [← rp_at j (by omega)] at hb
      go_wp2_with fail
      go_quiet (fail)
      go_wp2_with fail
      go_roundw
      case rel => exact ⟨j + 1, q + nq, by omega, by go_num, rfl⟩
      case measure => simp [intOf]; omega
    · obtain rfl : j = κ := by omega
      have hb := eq_lit HA.out
      rw [← rp_at j (by omega)] at hb
      have hj5 : ((j : Int) == 4) = false := beq_eq_false_iff_ne.2 (by omega)
      go_wp2_with fail
      go_quiet (fail)
      go_wp2_with fail
      obtain ⟨wq, hwq⟩ : ∃ wq, wq = (w.alloc (.cells #[.int .u8 0, .int .i64 0] 44)).drewN (q + nq) := ⟨_, rfl⟩
      rw [← hwq]
      have HWQ := Lib.hid hwq
      clear hwq hb hd hj5 hm hm2
      go_loop [5, 8] (fun n i => ∃ (p : Nat) (ν : Int), 2 ≤ p ∧ p ≤ s.size ∧ i = .int .i64 p ∧ n = .int .i64 ν ∧ i64ok ν ∧ Hid (∀ x, isPart (rp j :: 45 :: t) (j + 1) x → ν = -((val t (p - 2) : Nat) : Int))) (fun _ i => s.size - (intOf i).toNat)
      case atStart => exact ⟨2, 0, Nat.le_refl _, by have := HSZ.out; omega, rfl, rfl, by unfold i64ok; omega, Lib.hid (fun x _ => rfl)⟩
      case round =>
        obtain ⟨p, ν, hp1, hps, rfl, rfl, hν, HINV⟩ := hrel
        by_cases hpl : p < s.size ∧ p < 22
        · have hd1 : decide ((p : Int) < (s.size : Int)) = true := by simp; omega
          have hd2 : decide ((p : Int) < 22) = true := by simp; omega
          have hp0 : (0 : Int) ≤ (p : Int) := by omega
          have hpz : (p : Int) < (s.size : Int) := by omega
          have hbyte : s[p].toNat < 256 := s[p].toNat_lt
          by_cases hdig : 48 ≤ s[p].toNat ∧ s[p].toNat ≤ 57
          · have hc1 : decide ((s[p].toNat : Int) < 48) = false := by simp; omega
            have hc2 : decide (57 < (s[p].toNat : Int)) = false := by simp; omega
            have hstep := minus_step (κ := j) HLET.out (byte_at2 HL.out p hp1 hpl.1) HINV.out
            have HST := Lib.hid hstep
            clear hstep
            go_wp2_with fail
            refine ⟨⟨p + 1, _, by omega, by omega, by go_num, rfl, wrap_ok _, Lib.hid (fun x hx => by have := HST.out x hx; rw [show p + 1 - 2 = p - 2 + 1 by omega]; exact this)⟩, by simp [intOf]; omega⟩
          · have hno : oneP s.data.toList = none := by
              rw [HL.out]
              exact oneP_none fun k n hk => hdig (by
                obtain rfl := part_kind hκ HLET.out hk
                obtain ⟨u, _, _, rfl⟩ := part_minus HLET.out hk
                exact dec_dig u _ (List.mem_of_getElem? (byte_at2 HL.out p hp1 hpl.1)))
            have HNO := Lib.hid hno
            clear hno
            have hc0 : wq.cell? ⟨w.heap.size, 0, none⟩ = some (.int .u8 0) := by rw [HWQ.out]; simp
            have hc1 : wq.cell? ⟨w.heap.size, 1, none⟩ = some (.int .i64 0) := by rw [HWQ.out]; simp
            have hf0 : wq.frozen? ⟨w.heap.size, 0, none⟩ = false := by rw [HWQ.out]; simp
            have hf1 : wq.frozen? ⟨w.heap.size, 1, none⟩ = false := by rw [HWQ.out]; simp
            by_cases hlow : s[p].toNat < 48
            · have hcl : decide ((s[p].toNat : Int) < 48) = true := by simp; omega
              clear hdig
              go_wp2_with fail
              exact bodyPost_ret (v := .tuple #[.agg #[.int .u8 0, .int .i64 0], .bool false]) (by simp [results, Tryd.results38, go_sem, hc0, hc1]) rfl ⟨Or.inr ⟨HNO.out, 0, 0, rfl⟩, by rw [HWQ.out]; exact below_two w _ _ _⟩
            · have hcl : decide ((s[p].toNat : Int) < 48) = false := by simp; omega
              have hch : decide (57 < (s[p].toNat : Int)) = true := by simp; omega
              clear hdig
              go_wp2_with fail
              exact bodyPost_ret (v := .tuple #[.agg #[.int .u8 0, .int .i64 0], .bool false]) (by simp [results, Tryd.results38, go_sem, hc0, hc1]) rfl ⟨Or.inr ⟨HNO.out, 0, 0, rfl⟩, by rw [HWQ.out]; exact below_two w _ _ _⟩
        · have hc0 : wq.cell? ⟨w.heap.size, 0, none⟩ = some (.int .u8 0) := by rw [HWQ.out]; simp
          have hc1 : wq.cell? ⟨w.heap.size, 1, none⟩ = some (.int .i64 0) := by rw [HWQ.out]; simp
          have hf0 : wq.frozen? ⟨w.heap.size, 0, none⟩ = false := by rw [HWQ.out]; simp
          have hf1 : wq.frozen? ⟨w.heap.size, 1, none⟩ = false := by rw [HWQ.out]; simp
          have hu1 : IntKind.i64.wrap ((j : Int) + 1) = (j : Int) + 1 := by
            have : j = 0 ∨ j = 1 ∨ j = 2 ∨ j = 3 := by omega
            rcases this with rfl | rfl | rfl | rfl <;> decide
          have hu2 : IntKind.u8.wrap ((j : Int) + 1) = (j : Int) + 1 := by
            have : j = 0 ∨ j = 1 ∨ j = 2 ∨ j = 3 := by omega
            rcases this with rfl | rfl | rfl | rfl <;> decide
          have hsl : (1 : Int) ≤ (s.size : Int) := by omega
          obtain ⟨bq, hbq⟩ : ∃ bq : Bool, ((s.extract 1 s.size).toList == Lib.itoa ν) = bq := ⟨_, rfl⟩
          have hend : p = s.size ∨ (p < s.size ∧ 22 ≤ p) := by omega
          have hfin : OneOut s.data.toList (.returned (.tuple #[.agg #[.int .u8 ((j : Int) + 1), .int .i64 ν], .bool bq])) := by
            rw [tail_of HL.out] at hbq
            rw [HL.out]
            cases bq with
            | true =>
              refine Or.inl ⟨j + 1, ν, oneP_some ⟨by omega, by omega, hν, ?_⟩, rfl⟩
              rw [HLET.out, eq_of_beq hbq]; rfl
            | false =>
              refine Or.inr ⟨?_, _, _, rfl⟩
              refine oneP_none fun k n hk => ?_
              obtain rfl := part_kind hκ HLET.out hk
              have hlen := part_len HLET.out hk
              obtain ⟨u, rfl, _, ht⟩ := part_minus HLET.out hk
              have hν' := HINV.out _ hk
              have hsz := HSZ.out
              rw [ht, val_all u _ (by rw [← ht]; simp at hlen; omega)] at hν'
              rw [hν', ← (part_tail HLET.out hk).1] at hbq
              simp at hbq
          have HFIN := Lib.hid hfin
          clear hfin hpl
          rcases hend with hend | ⟨he1, he2⟩
          · have hd1 : decide ((p : Int) < (s.size : Int)) = false := by simp; omega
            go_wp2_with fail
            go_region_with ((go_at_call 36; refine (digits_q ν hν.1 hν.2 _).mono ?_; rintro e w' ⟨rfl, rfl⟩))
            all_goals go_wp2_with fail
            all_goals exact bodyPost_ret (v := .tuple #[.agg #[.int .u8 ((j : Int) + 1), .int .i64 ν], .bool bq]) (by simp [results, Tryd.results38, go_sem, hc0, hc1]) rfl ⟨HFIN.out, (by rw [HWQ.out]; exact (below_two w _ _ _).drew)⟩
          · have hd1 : decide ((p : Int) < (s.size : Int)) = true := by simp; omega
            have hd2 : decide ((p : Int) < 22) = false := by simp; omega
            go_wp2_with fail
            go_region_with ((go_at_call 36; refine (digits_q ν hν.1 hν.2 _).mono ?_; rintro e w' ⟨rfl, rfl⟩))
            all_goals go_wp2_with fail
            all_goals exact bodyPost_ret (v := .tuple #[.agg #[.int .u8 ((j : Int) + 1), .int .i64 ν], .bool bq]) (by simp [results, Tryd.results38, go_sem, hc0, hc1]) rfl ⟨HFIN.out, (by rw [HWQ.out]; exact (below_two w _ _ _).drew)⟩

theorem one_any (s : ByteArray) (w : World) (hs : s.size ≤ 100000) : Calls Tryd.prog 38 #[.string s] w fun e w' => OneOut s.data.toList e ∧ Below w.heap.size w w' := by
  by_cases h0 : 0 < s.size
  · by_cases hno : ∀ j, j < 4 → s[0] ≠ rp j
    · exact one_out s w hs h0 hno
    · obtain ⟨κ, hκ, he⟩ : ∃ κ, κ < 4 ∧ s[0] = rp κ := Classical.byContradiction fun hh => hno fun j hj e => hh ⟨j, hj, e⟩
      have h2 : s.data.toList[0]? = some s[0] := Lib.data_getElem? s 0 h0
      cases hl : s.data.toList with
      | nil => rw [hl] at h2; simp at h2
      | cons c t =>
        rw [hl] at h2
        simp at h2
        rw [he] at h2
        subst h2
        rw [← hl]
        by_cases hm : ∃ r, t = 45 :: r
        · obtain ⟨r, rfl⟩ := hm
          exact one_minus s κ r w hs h0 hκ hl
        · exact one_plus s κ t w hs h0 hκ hl (fun r e => hm ⟨r, e⟩)
  · have hz : s = ⟨#[]⟩ := by
      have : s.data.toList = [] := List.length_eq_zero_iff.1 (by rw [← Lib.size_eq]; omega)
      ext1; exact Array.toList_inj.1 (by rw [this])
    subst hz
    exact one_nil w
end Go.Proofs.YtadcegfdojocmaaDoor
