/- The walk over LexMore: whatever the two sources, it answers true. By an AI agent. -/
import Derived.Test.YtdbkchngpbahaaaDoorWalkG
import Derived.Test.YtdbkchngpbahaaaDoorMore
import Derived.Laws.StructEq
namespace Go.Proofs.YtdbkchngpbahaaaDoor
open Go.RowKit

theorem lx_code {l : List UInt8} {p q : Nat} {e : Int} (h : lx l p = .error (q, e)) : e = 130 ∨ e = 131 := by
  have : ∀ l p, ∀ q e, lx l p = .error (q, e) → e = 130 ∨ e = 131 := by
    refine lx_rec (fun p q e h => ?_) (fun c r p hb ih q e h => ?_) (fun c r p e' hb ht q e h => ?_) (fun c r p k n v hb ht ih q e h => ?_)
    · rw [lx_nil] at h; cases h
    · rw [lx_blk hb] at h; exact ih q e h
    · rw [lx_err hb ht] at h
      injection h with h; injection h with _ h; subst h
      unfold tokAt at ht
      simp only at ht
      split at ht
      · cases ht
      · split at ht
        · split at ht
          · cases ht
          · injection ht with ht; exact Or.inr ht.symm
        · split at ht
          · injection ht with ht; exact Or.inl ht.symm
          · cases ht
    · rw [lx_tok hb ht] at h
      cases hx : lx ((c :: r).drop n) (p + n) with
      | error e' => rw [hx] at h; injection h with h; subst h; exact ih q e hx
      | ok x => rw [hx] at h; cases h
  exact this l p q e h

theorem lx_errat {l : List UInt8} {p q : Nat} {e : Int} (h : lx l p = .error (q, e)) : q ≤ p + l.length := by
  have : ∀ l p, ∀ q e, lx l p = .error (q, e) → q ≤ p + l.length := by
    refine lx_rec (fun p q e h => ?_) (fun c r p hb ih q e h => ?_) (fun c r p e' hb ht q e h => ?_) (fun c r p k n v hb ht ih q e h => ?_)
    · rw [lx_nil] at h; cases h
    · rw [lx_blk hb] at h; have := ih q e h; rw [List.length_cons]; omega
    · rw [lx_err hb ht] at h
      injection h with h; injection h with h _; omega
    · rw [lx_tok hb ht] at h
      cases hx : lx ((c :: r).drop n) (p + n) with
      | error e' =>
        rw [hx] at h; injection h with h; subst h
        have := ih q e hx
        have hl := tokAt_len ht
        rw [List.length_drop] at this; omega
      | ok x => rw [hx] at h; cases h
  exact this l p q e h
theorem lx_place {l : List UInt8} {p : Nat} {ts : List Tok} (h : lx l p = .ok ts) : ∀ t ∈ ts, t.at' ≤ p + l.length := by
  have : ∀ l p, ∀ ts, lx l p = .ok ts → ∀ t ∈ ts, t.at' ≤ p + l.length := by
    refine lx_rec (fun p ts h => ?_) (fun c r p hb ih ts h => ?_) (fun c r p e' hb ht ts h => ?_) (fun c r p k n v hb ht ih ts h => ?_)
    · rw [lx_nil] at h; injection h with h; subst h; intro t ht; simp at ht; subst ht; simp
    · rw [lx_blk hb] at h; intro t ht; have := ih ts h t ht; rw [List.length_cons]; omega
    · rw [lx_err hb ht] at h; cases h
    · rw [lx_tok hb ht] at h
      cases hx : lx ((c :: r).drop n) (p + n) with
      | error e' => rw [hx] at h; cases h
      | ok x =>
        rw [hx] at h; injection h with h; subst h
        intro t htm
        have hl := tokAt_len ht
        rcases List.mem_cons.1 htm with rfl | htm
        · simp only; omega
        · have := ih x hx t htm; rw [List.length_drop] at this; omega
  exact this l p ts h
theorem lx_many {l : List UInt8} {p : Nat} {ts : List Tok} (h : lx l p = .ok ts) : ts.length ≤ l.length + 1 := by
  have : ∀ l p, ∀ ts, lx l p = .ok ts → ts.length ≤ l.length + 1 := by
    refine lx_rec (fun p ts h => ?_) (fun c r p hb ih ts h => ?_) (fun c r p e' hb ht ts h => ?_) (fun c r p k n v hb ht ih ts h => ?_)
    · rw [lx_nil] at h; injection h with h; subst h; simp
    · rw [lx_blk hb] at h; have := ih ts h; rw [List.length_cons]; omega
    · rw [lx_err hb ht] at h; cases h
    · rw [lx_tok hb ht] at h
      cases hx : lx ((c :: r).drop n) (p + n) with
      | error e' => rw [hx] at h; cases h
      | ok x =>
        rw [hx] at h; injection h with h; subst h
        have hl := tokAt_len ht
        have := ih x hx; rw [List.length_drop] at this; rw [List.length_cons]; omega
  exact this l p ts h

theorem byts_bytes (w : World) (s : ByteArray) : BytS (Lib.bytesWorld w 5 s) (some ⟨w.heap.size, 0, none⟩) s.data.toList := by
  refine Or.inr ⟨w.heap.size, 0, rfl, fun i hi => ?_⟩
  have hi' : i < s.size := by rw [← len_eq]; exact hi
  rw [Nat.zero_add, Lib.bytesWorld_cell w 5 s i hi', List.getD_eq_getElem?_getD, List.getElem?_eq_getElem hi]
  rfl

set_option maxRecDepth 100000 in
set_option maxHeartbeats 8000000 in
theorem more_big (a b : Option Addr) (na ca nb cb : Nat) (w : World) (hw : EW w) (h : 1000 < na ∨ 1000 < nb) :
    Calls Tryd.prog 6 #[.slice a na ca, .slice b nb cb] w fun e w' => e = .returned (.bool true) ∧ Below w.heap.size w w' := by
  have HW := Lib.hid hw; clear hw
  by_cases h1 : 1000 < na
  · have h1' : (1000 : Int) < (na : Int) := by omega
    clear h
    go_enter Tryd.func6, Tryd.ntmps6
    go_wp2_with fail
    refine (works_any _ HW.out).mono ?_; rintro e w1 ⟨rfl, hb1⟩
    go_wp2_with fail
    go_ret
    exact ⟨rfl, hb1⟩
  · have h1' : ¬ (1000 : Int) < (na : Int) := by omega
    have h2' : (1000 : Int) < (nb : Int) := by omega
    clear h h1
    go_enter Tryd.func6, Tryd.ntmps6
    go_wp2_with fail
    refine (works_any _ HW.out).mono ?_; rintro e w1 ⟨rfl, hb1⟩
    go_wp2_with fail
    go_ret
    exact ⟨rfl, hb1⟩

theorem lex_some (a : Option Addr) (c : Nat) (l : List UInt8) (w : World) (hn : l.length ≤ 65536) (hl : BytS w a l) (hw : EW w) :
    Calls Tryd.prog 10 #[.slice a l.length c] w fun e w' => ∃ v, ∃ at' er : Int, e = .returned (.tuple #[v, .int .i64 at', .int .i64 er]) ∧ Below w.heap.size w w' := by
  cases h : lexS l with
  | ok ts => exact (lex_ok a c l ts w hn hl hw h).mono (by rintro e w' ⟨A, c', rfl, _, hb⟩; exact ⟨_, _, _, rfl, hb⟩)
  | error x => obtain ⟨p, er⟩ := x; exact (lex_bad a c l p er w hn hl hw h).mono (by rintro e w' ⟨rfl, hb⟩; exact ⟨_, _, _, rfl, hb⟩)

theorem three_data (la lb : List UInt8) : ((⟨la.toArray⟩ : ByteArray) ++ (⟨#[32]⟩ : ByteArray) ++ (⟨lb.toArray⟩ : ByteArray)).data.toList = la ++ 32 :: lb := by
  simp

theorem neqTok (k n a : Int) (s : ByteArray) (W : World) : (binOp .neq 35 (.agg #[.int .u8 k, .string s, .int .i64 n, .int .i64 a]) (.agg #[.int .u8 k, .string s, .int .i64 n, .int .i64 a])).run Tryd.prog W = .ok (.bool false) W := by
  simp [go_sem]
theorem toks_block {w : World} {a : Option Addr} {ts : List Tok} (h : TokS w a ts) (hne : ts ≠ []) : ∃ b o, a = some ⟨b, o, none⟩ ∧ ∀ i t, ts[i]? = some t → cellsAt w b (o + i * 4) t := by
  rcases h with ⟨h, _⟩ | h
  · exact absurd h hne
  · exact h

theorem third_bad (w : World) (S : ByteArray) (L : List UInt8) (m c p : Nat) (er : Int) (hS : S.data.toList = L) (hm : L.length = m) (hn : m ≤ 65536) (hw : EW w) (h : lexS L = .error (p, er)) :
    Calls Tryd.prog 10 #[.slice (some ⟨w.heap.size, 0, none⟩) m c] (Lib.bytesWorld w 5 S) fun e w' => e = .returned (.tuple #[.slice none 0 0, .int .i64 p, .int .i64 er]) ∧ Below w.heap.size w w' := by
  subst hm
  have hb := byts_bytes w S
  rw [hS] at hb
  have hB := Lib.bytesWorld_below w 5 S
  exact (lex_bad _ c L p er _ hn hb (hw.below hB) h).mono (by rintro e w' ⟨rfl, h⟩; exact ⟨rfl, below_next hB h⟩)
theorem third_ok (w : World) (S : ByteArray) (L : List UInt8) (m c : Nat) (ts : List Tok) (hS : S.data.toList = L) (hm : L.length = m) (hn : m ≤ 65536) (hw : EW w) (h : lexS L = .ok ts) :
    Calls Tryd.prog 10 #[.slice (some ⟨w.heap.size, 0, none⟩) m c] (Lib.bytesWorld w 5 S) fun e w' => ∃ A c', e = .returned (.tuple #[.slice A ts.length c', .int .i64 0, .int .i64 0]) ∧ TokS w' A ts ∧ Below w.heap.size w w' := by
  subst hm
  have hb := byts_bytes w S
  rw [hS] at hb
  have hB := Lib.bytesWorld_below w 5 S
  exact (lex_ok _ c L ts _ hn hb (hw.below hB) h).mono (by rintro e w' ⟨A, c', rfl, ht, h⟩; exact ⟨A, c', rfl, ht, below_next hB h⟩)

set_option maxRecDepth 100000 in
set_option maxHeartbeats 8000000 in
theorem more_small (a b : Option Addr) (ca cb : Nat) (la lb : List UInt8) (w : World) (hw : EW w) (hna : la.length ≤ 1000) (hnb : lb.length ≤ 1000) (ha : BytS w a la) (hb : BytS w b lb) :
    Calls Tryd.prog 6 #[.slice a la.length ca, .slice b lb.length cb] w fun e w' => e = .returned (.bool true) ∧ Below w.heap.size w w' := by
  have HW := Lib.hid hw; have HA := Lib.hid ha; have HB := Lib.hid hb; clear hw ha hb
  have hm := lx_more (b := 32) (by decide) lb la 0
  have hsh := lx_shift (la.length + 1) lb 0
  rw [Nat.zero_add] at hsh
  rw [Nat.zero_add, hsh] at hm
  obtain ⟨na, hna'⟩ : ∃ n, n = la.length := ⟨_, rfl⟩
  obtain ⟨nb, hnb'⟩ : ∃ n, n = lb.length := ⟨_, rfl⟩
  have HNA := Lib.hid hna'; have HNB := Lib.hid hnb'
  rw [← hna'] at hna ⊢
  rw [← hnb'] at hnb ⊢
  have h1' : ¬ (1000 : Int) < (na : Int) := by omega
  have h2' : ¬ (1000 : Int) < (nb : Int) := by omega
  have HLEN : Hid ((la ++ 32 :: lb).length = na + 1 + nb) := Lib.hid (by rw [List.length_append, List.length_cons, hna', hnb']; omega)
  clear hsh hna' hnb'
  cases hA : lx la 0 with
  | error ee =>
    obtain ⟨p, er⟩ := ee
    rw [hA] at hm
    have her : ((er : Int) == 0) = false := by rcases lx_code hA with rfl | rfl <;> rfl
    have hern : ¬ (er : Int) = 0 := by rcases lx_code hA with rfl | rfl <;> decide
    have HLA := Lib.hid (lex_bad a ca la p er w (by rw [← HNA.out]; omega) HA.out HW.out hA)
    have HM := Lib.hid hm
    clear hA hm
    go_enter Tryd.func6, Tryd.ntmps6
    go_wp2_with fail
    rw [← HNA.out] at HLA
    refine HLA.out.mono ?_; rintro e w1 ⟨rfl, hb1⟩
    go_wp2_with fail
    have HLB := lex_some b cb lb w1 (by rw [← HNB.out]; omega) (HB.out.below hb1) (HW.out.below hb1)
    rw [← HNB.out] at HLB
    refine HLB.mono ?_; rintro e w2 ⟨v2, at2, er2, rfl, hb2'⟩
    have hb2 := below_next hb1 hb2'
    have kA := (HA.out.below hb2).conv ca
    have kB := (HB.out.below hb2).conv cb
    rw [← HNA.out] at kA
    rw [← HNB.out] at kB
    obtain ⟨SA, hSA⟩ : ∃ S : ByteArray, S = ⟨la.toArray⟩ := ⟨_, rfl⟩
    obtain ⟨SB, hSB⟩ : ∃ S : ByteArray, S = ⟨lb.toArray⟩ := ⟨_, rfl⟩
    have HABL : Hid ((SA ++ (⟨#[32]⟩ : ByteArray) ++ SB).data.toList = la ++ 32 :: lb) := Lib.hid (by rw [hSA, hSB]; exact three_data la lb)
    have hsA : SA.size = na := by rw [← len_eq, hSA, HNA.out]
    have hsB : SB.size = nb := by rw [← len_eq, hSB, HNB.out]
    have hs1 : (SA ++ (⟨#[32]⟩ : ByteArray)).size = na + 1 := by rw [ByteArray.size_append, hsA]; rfl
    have hs3 : (SA ++ (⟨#[32]⟩ : ByteArray) ++ SB).size = na + 1 + nb := by rw [ByteArray.size_append, hs1, hsB]
    rw [← hSA] at kA
    rw [← hSB] at kB
    clear hSA hSB
    have kS := fun s => Lib.run_convert_string_bytes (P := Tryd.prog) w2 9 22 5 s (u := .string) Tryd.underlying9 Tryd.underlying22 Tryd.underlying5
    have HB2 := Lib.hid hb2
    clear hb1 hb2' hb2 HLB
    go_wp2_with fail
    refine (third_bad w2 _ _ _ _ p er HABL.out HLEN.out (by omega) (HW.out.below HB2.out) HM.out).mono ?_; rintro e w3 ⟨rfl, hb3⟩
    have HB3 := Lib.hid (below_next HB2.out hb3)
    clear kS kA kB hs1 hs3 hsA hsB hb3
    go_wp2_with (go_at_call 9; refine (works_any _ (HW.out.below HB3.out)).mono ?_; rintro e w4 ⟨rfl, hb4⟩)
    go_ret
    exact ⟨rfl, below_next HB3.out hb4⟩
  | ok xs =>
    rw [hA] at hm
    have HLA := Lib.hid (lex_ok a ca la xs w (by rw [← HNA.out]; omega) HA.out HW.out hA)
    have hxne := lx_ne hA
    have hA0 := hA
    clear hA
    cases hB : lx lb 0 with
    | error ee =>
      obtain ⟨p, er⟩ := ee
      rw [hB] at hm
      simp only [shiftR, mapOk] at hm
      have her : ((er : Int) == 0) = false := by rcases lx_code hB with rfl | rfl <;> rfl
      have hern : ¬ (er : Int) = 0 := by rcases lx_code hB with rfl | rfl <;> decide
      clear hA0
      have hpb : p ≤ 1000 := by have := lx_errat hB; rw [← HNB.out] at this; omega
      have HLB' := Lib.hid (fun w1 hb1 => lex_bad b cb lb p er w1 (by rw [← HNB.out]; omega) (HB.out.below hb1) (HW.out.below hb1) hB : ∀ w1, Below w.heap.size w w1 → _)
      have HM := Lib.hid hm
      clear hB hm
      go_enter Tryd.func6, Tryd.ntmps6
      go_wp2_with fail
      rw [← HNA.out] at HLA
      refine HLA.out.mono ?_; rintro e w1 ⟨AX, cx, rfl, htx, hb1⟩
      go_wp2_with fail
      have HLB := HLB'.out w1 hb1
      rw [← HNB.out] at HLB
      refine HLB.mono ?_; rintro e w2 ⟨rfl, hb2'⟩
      have hb2 := below_next hb1 hb2'
      have kA := (HA.out.below hb2).conv ca
      have kB := (HB.out.below hb2).conv cb
      rw [← HNA.out] at kA
      rw [← HNB.out] at kB
      obtain ⟨SA, hSA⟩ : ∃ S : ByteArray, S = ⟨la.toArray⟩ := ⟨_, rfl⟩
      obtain ⟨SB, hSB⟩ : ∃ S : ByteArray, S = ⟨lb.toArray⟩ := ⟨_, rfl⟩
      have HABL : Hid ((SA ++ (⟨#[32]⟩ : ByteArray) ++ SB).data.toList = la ++ 32 :: lb) := Lib.hid (by rw [hSA, hSB]; exact three_data la lb)
      have hsA : SA.size = na := by rw [← len_eq, hSA, HNA.out]
      have hsB : SB.size = nb := by rw [← len_eq, hSB, HNB.out]
      have hs1 : (SA ++ (⟨#[32]⟩ : ByteArray)).size = na + 1 := by rw [ByteArray.size_append, hsA]; rfl
      have hs3 : (SA ++ (⟨#[32]⟩ : ByteArray) ++ SB).size = na + 1 + nb := by rw [ByteArray.size_append, hs1, hsB]
      rw [← hSA] at kA
      rw [← hSB] at kB
      clear hSA hSB
      have kS := fun s => Lib.run_convert_string_bytes (P := Tryd.prog) w2 9 22 5 s (u := .string) Tryd.underlying9 Tryd.underlying22 Tryd.underlying5
      have HB2 := Lib.hid hb2
      clear hb1 hb2' hb2 HLB htx
      go_wp2_with fail
      refine (third_bad w2 _ _ _ _ (p + (la.length + 1)) er HABL.out HLEN.out (by omega) (HW.out.below HB2.out) HM.out).mono ?_; rintro e w3 ⟨rfl, hb3⟩
      have HB3 := Lib.hid (below_next HB2.out hb3)
      have hpl : (((p + (la.length + 1) : Nat)) : Int) = (na : Int) + 1 + (p : Int) := by rw [← HNA.out]; omega
      rw [hpl]
      clear kS kA kB hs1 hs3 hsA hsB hb3 hpl
      go_wp2_with (go_at_call 9; refine (works_any _ (HW.out.below HB3.out)).mono ?_; rintro e w4 ⟨rfl, hb4⟩)
      go_ret
      exact ⟨rfl, below_next HB3.out hb4⟩
    | ok ys =>
      rw [hB] at hm
      simp only [shiftR, mapOk] at hm
      have hyne := lx_ne hB
      have hyp := lx_place hB
      have hxl := lx_many (show lx la 0 = .ok xs from hA0)
      have hyl := lx_many hB
      obtain ⟨zs, hzs⟩ : ∃ zs, zs = xs.dropLast ++ ys.map (shiftT (la.length + 1)) := ⟨_, rfl⟩
      rw [← hzs] at hm
      have hx0 : 0 < xs.length := List.length_pos_iff.2 hxne
      have hy0 : 0 < ys.length := List.length_pos_iff.2 hyne
      have hzl : zs.length = xs.length - 1 + ys.length := by rw [hzs, List.length_append, List.length_dropLast, List.length_map]
      have hzne : zs ≠ [] := fun e => by rw [e] at hzl; simp at hzl; omega
      have HLB' := Lib.hid (fun w1 hb1 => lex_ok b cb lb ys w1 (by rw [← HNB.out]; omega) (HB.out.below hb1) (HW.out.below hb1) hB : ∀ w1, Below w.heap.size w w1 → _)
      have HM := Lib.hid hm
      have HZS := Lib.hid hzs; have HYP := Lib.hid hyp
      obtain ⟨nx, hnx⟩ : ∃ n, n = xs.length := ⟨_, rfl⟩
      obtain ⟨ny, hny⟩ : ∃ n, n = ys.length := ⟨_, rfl⟩
      obtain ⟨nz, hnz⟩ : ∃ n, n = zs.length := ⟨_, rfl⟩
      have HNX := Lib.hid hnx; have HNY := Lib.hid hny; have HNZ := Lib.hid hnz
      rw [← hnx] at hxl hx0 hzl
      rw [← hny] at hyl hy0 hzl
      rw [← hnz] at hzl
      rw [← HNA.out] at hxl
      rw [← HNB.out] at hyl
      have g1 : ((nx : Int) == 0) = false := by rw [beq_eq_false_iff_ne]; omega
      have g2 : ((ny : Int) == 0) = false := by rw [beq_eq_false_iff_ne]; omega
      have g1' : ¬ (nx : Int) = 0 := by omega
      have g2' : ¬ (ny : Int) = 0 := by omega
      have g3 : ((nx : Int) - 1 + (ny : Int)) = (nz : Int) := by omega
      have HZL := Lib.hid hzl
      have hnzb : nz ≤ 3000 := by omega
      clear hB hm hzs hyp hnx hny hnz hA0 hzl
      go_enter Tryd.func6, Tryd.ntmps6
      go_wp2_with fail
      rw [← HNA.out] at HLA
      refine HLA.out.mono ?_; rintro e w1 ⟨AX, cx, rfl, htx, hb1⟩
      rw [← HNX.out]
      go_wp2_with fail
      have HLB := HLB'.out w1 hb1
      rw [← HNB.out] at HLB
      refine HLB.mono ?_; rintro e w2 ⟨AY, cy, rfl, hty, hb2'⟩
      rw [← HNY.out]
      have hb2 := below_next hb1 hb2'
      have kA := (HA.out.below hb2).conv ca
      have kB := (HB.out.below hb2).conv cb
      rw [← HNA.out] at kA
      rw [← HNB.out] at kB
      obtain ⟨SA, hSA⟩ : ∃ S : ByteArray, S = ⟨la.toArray⟩ := ⟨_, rfl⟩
      obtain ⟨SB, hSB⟩ : ∃ S : ByteArray, S = ⟨lb.toArray⟩ := ⟨_, rfl⟩
      have HABL : Hid ((SA ++ (⟨#[32]⟩ : ByteArray) ++ SB).data.toList = la ++ 32 :: lb) := Lib.hid (by rw [hSA, hSB]; exact three_data la lb)
      have hsA : SA.size = na := by rw [← len_eq, hSA, HNA.out]
      have hsB : SB.size = nb := by rw [← len_eq, hSB, HNB.out]
      have hs1 : (SA ++ (⟨#[32]⟩ : ByteArray)).size = na + 1 := by rw [ByteArray.size_append, hsA]; rfl
      have hs3 : (SA ++ (⟨#[32]⟩ : ByteArray) ++ SB).size = na + 1 + nb := by rw [ByteArray.size_append, hs1, hsB]
      rw [← hSA] at kA
      rw [← hSB] at kB
      clear hSA hSB
      have kS := fun s => Lib.run_convert_string_bytes (P := Tryd.prog) w2 9 22 5 s (u := .string) Tryd.underlying9 Tryd.underlying22 Tryd.underlying5
      have HB2 := Lib.hid hb2
      have htx2 := htx.below hb2'
      clear hb1 hb2' hb2 HLB htx
      go_wp2_with fail
      refine (third_ok w2 _ _ _ _ zs HABL.out HLEN.out (by omega) (HW.out.below HB2.out) HM.out).mono ?_; rintro e w3 ⟨AZ, cz, rfl, htz, hb3⟩
      rw [← HNZ.out]
      have HB3 := Lib.hid (below_next HB2.out hb3)
      obtain ⟨bx, ox, rfl, hx⟩ := toks_block (htx2.below hb3) hxne
      obtain ⟨by', oy, rfl, hy⟩ := toks_block (hty.below hb3) hyne
      obtain ⟨bz, oz, rfl, hz⟩ := toks_block htz hzne
      have HX := Lib.hid hx; have HY := Lib.hid hy; have HZ := Lib.hid hz
      clear kS kA kB hs1 hs3 hsA hsB hb3 htx2 hty htz hx hy hz hxne hyne hzne
      go_wp2_with fail
      go_loopw [14] (fun i wr => ∃ k : Nat, k ≤ nz ∧ i = .int .i64 k ∧ Below w3.heap.size w3 wr) (fun i _ => nz - (intOf i).toNat)
      case atStart => exact ⟨0, Nat.zero_le _, rfl, Below.refl _ _⟩
      case round =>
        obtain ⟨k, hk, rfl, hbr⟩ := hrel
        by_cases hlt : k < nz
        · obtain ⟨t, ht⟩ : ∃ t, zs[k]? = some t := ⟨_, List.getElem?_eq_getElem (by rw [← HNZ.out]; exact hlt)⟩
          obtain ⟨z0, z1, z2, z3⟩ := (HZ.out k t ht).below hbr
          have hbz := cell_lt' z0
          have hsz := hbr.size
          by_cases hkx : k + 1 < nx
          · have hkx' : (k : Int) < (nx : Int) - 1 := by omega
            have hxt : xs[k]? = some t := by
              rw [← ht, HZS.out, List.getElem?_append_left (by rw [List.length_dropLast, ← HNX.out]; omega), List.getElem?_dropLast, if_pos (by rw [← HNX.out]; omega)]
            obtain ⟨x0, x1, x2, x3⟩ := (HX.out k t hxt).below hbr
            have hbx := cell_lt' x0
            have kneq := neqTok t.kind t.n t.at' ⟨t.text.toArray⟩
            clear ht hxt
            go_upto_region 20 with fail
            go_quiet (fail)
            go_wp2_with fail
            go_roundw
            case rel => exact ⟨k + 1, by omega, by go_num, (hbr.alloc hsz _).trans ((below_drewN _ nq).mono (by simp; omega))⟩
            case measure => simp [intOf]; omega
          · have hkx' : ¬ (k : Int) < (nx : Int) - 1 := by omega
            obtain ⟨j, hj⟩ : ∃ j, j + nx = k + 1 := ⟨k + 1 - nx, by omega⟩
            have hji : (k : Int) - (nx : Int) + 1 = (j : Int) := by omega
            have hjn : j < ny := by have := HZL.out; omega
            obtain ⟨u, hu⟩ : ∃ u, ys[j]? = some u := ⟨_, List.getElem?_eq_getElem (by rw [← HNY.out]; exact hjn)⟩
            have htu : t = shiftT (la.length + 1) u := by
              have : zs[k]? = some (shiftT (la.length + 1) u) := by
                rw [HZS.out, List.getElem?_append_right (by rw [List.length_dropLast, ← HNX.out]; omega), List.length_dropLast, ← HNX.out, List.getElem?_map]
                have e : k - (nx - 1) = j := by omega
                rw [e, hu]; rfl
              rw [this] at ht; injection ht with ht; exact ht.symm
            have hup : u.at' ≤ 1000 := by
              have := HYP.out u (List.mem_of_getElem? hu)
              rw [← HNB.out] at this; omega
            subst htu
            obtain ⟨y0, y1, y2, y3⟩ := (HY.out j u hu).below hbr
            have hby := cell_lt' y0
            have z0' : wr.cell? ⟨bz, oz + k * 4, none⟩ = some (.int .u8 u.kind) := z0
            have z1' : wr.cell? ⟨bz, oz + k * 4 + 1, none⟩ = some (.string ⟨u.text.toArray⟩) := z1
            have z2' : wr.cell? ⟨bz, oz + k * 4 + 2, none⟩ = some (.int .i64 u.n) := z2
            have z3' : wr.cell? ⟨bz, oz + k * 4 + 3, none⟩ = some (.int .i64 ((u.at' : Int) + (na : Int) + 1)) := z3.trans (by
              congr 2; show ((u.at' + (la.length + 1) : Nat) : Int) = _; rw [← HNA.out]; omega)
            have kneq := neqTok u.kind u.n ((u.at' : Int) + (na : Int) + 1) ⟨u.text.toArray⟩
            have b1 : (0 : Int) ≤ (k : Int) - (nx : Int) + 1 := by omega
            have b2 : (k : Int) - (nx : Int) + 1 < (ny : Int) := by omega
            clear ht hu z0 z1 z2 z3
            go_upto_region 20 with fail
            go_quiet (fail)
            go_wp2_with fail
            go_roundw
            case rel => exact ⟨k + 1, by omega, by go_num, (hbr.alloc hsz _).trans ((below_drewN _ nq).mono (by simp; omega))⟩
            case measure => simp [intOf]; omega
        · have HB5 := Lib.hid (below_next HB3.out hbr)
          go_wp2_with (go_at_call 9; refine (works_any _ (HW.out.below HB5.out)).mono ?_; rintro e w4 ⟨rfl, hb4⟩)
          go_ret
          exact ⟨rfl, below_next HB5.out hb4⟩
end Go.Proofs.YtdbkchngpbahaaaDoor
