/- The walk over ParseEnds. By an AI agent. -/
import Derived.Test.YtkkeocnnecegbaaGreatDoorPEndsT
import Derived.Test.YtkkeocnnecegbaaGreatDoorPzC
import Derived.Test.YtkkeocnnecegbaaGreatDoorPzD
namespace Go.Proofs.YtkkeocnnecegbaaGreatDoor
open Go.RowKit

set_option maxRecDepth 100000 in
set_option maxHeartbeats 8000000 in
theorem ends_big (A B : Option Addr) (n m c d : Nat) (w : World) (he : EnvP w) (h : 800 < n ∨ 200 < m) :
    Calls Tryz.prog 8 #[.slice A n c, .slice B m d] w fun e w' => e = .returned (.bool true) ∧ Below w.heap.size w w' := by
  have HE := Lib.hid he
  clear he
  by_cases h1 : 800 < n
  · have e1 : (800 : Int) < (n : Int) := by omega
    clear h h1
    go_enter Tryz.func8, Tryz.ntmps8
    go_wp2_with fail
    refine (works_good HE.out).mono ?_
    rintro e w2 ⟨rfl, hb2⟩
    have HB2 := Lib.hid hb2
    clear hb2
    go_wp2_with fail
    go_ret
    exact ⟨rfl, HB2.out⟩
  · have e1 : ¬ (800 : Int) < (n : Int) := by omega
    have e2 : (200 : Int) < (m : Int) := by omega
    clear h h1
    go_enter Tryz.func8, Tryz.ntmps8
    go_wp2_with fail
    refine (works_good HE.out).mono ?_
    rintro e w2 ⟨rfl, hb2⟩
    have HB2 := Lib.hid hb2
    clear hb2
    go_wp2_with fail
    go_ret
    exact ⟨rfl, HB2.out⟩

set_option maxRecDepth 100000 in
set_option maxHeartbeats 16000000 in
theorem ends_not (A B : Option Addr) (c d m : Nat) (src : List UInt8) (w : World) (hn : src.length ≤ 800) (hm : m ≤ 200) (ha : BytS w A src) (he : EnvP w) (h : ∀ p, parseS src ≠ .error (p, 140)) :
    Calls Tryz.prog 8 #[.slice A src.length c, .slice B m d] w fun e w' => e = .returned (.bool true) ∧ Below w.heap.size w w' := by
  have HC := Lib.hid (parse_both A c src w (by omega) ha he)
  have HE := Lib.hid he; have HH := Lib.hid h
  have e1 : ¬ (800 : Int) < (src.length : Int) := by omega
  have e2 : ¬ (200 : Int) < (m : Int) := by omega
  obtain ⟨n, hnn⟩ : ∃ n, n = src.length := ⟨_, rfl⟩
  rw [← hnn] at HC e1 ⊢
  clear hn ha he h hm hnn
  go_enter Tryz.func8, Tryz.ntmps8
  go_wp2_with fail
  refine HC.out.mono ?_
  rintro e w1 ⟨ho1, hb1⟩
  have HB1 := Lib.hid hb1
  clear hb1
  rcases ho1 with ⟨p, er, hp, rfl⟩ | ⟨x, A1, n1, c1, hp, rfl, _⟩
  · have e3 : (er != 140) = true := by
      have : er ≠ 140 := fun hh => HH.out p (by rw [hp, hh])
      simpa using this
    have HB2 := Lib.hid (below_next HB1.out ((Below.refl _ _).alloc (Nat.le_refl _) (.cells #[.slice none 0 0] 24)))
    clear hp HH
    go_wp2_with fail
    refine (works_good (HE.out.below HB2.out)).mono ?_
    rintro e w4 ⟨rfl, hb4⟩
    have HB4 := Lib.hid (below_next HB2.out hb4)
    clear hb4
    go_wp2_with fail
    go_ret
    exact ⟨rfl, HB4.out⟩
  · have HB2 := Lib.hid (below_next HB1.out ((Below.refl _ _).alloc (Nat.le_refl _) (.cells #[.slice A1 n1 c1] 24)))
    clear hp HH
    go_wp2_with fail
    refine (works_good (HE.out.below HB2.out)).mono ?_
    rintro e w4 ⟨rfl, hb4⟩
    have HB4 := Lib.hid (below_next HB2.out hb4)
    clear hb4
    go_wp2_with fail
    go_ret
    exact ⟨rfl, HB4.out⟩

/-- What the tokens ahead, spelled, are parsed as. -/
theorem ahead_any {w : World} (he : EnvP w) (S : ByteArray) (L : List UInt8) (m c : Nat) (hS : S.data.toList = L) (hm : L.length = m) (hn : m ≤ 65536) (h : (∃ x, parseS L = .ok x) ∨ parseS L = .error (m, 140)) :
    Calls Tryz.prog 24 #[.slice (some ⟨w.heap.size, 0, none⟩) m c] (Lib.bytesWorld w 5 S) fun e w' => (∃ (A1 : Option Addr) (n1 c1 : Nat) (q er : Int), e = .returned (.tuple #[.agg #[.slice A1 n1 c1], .int .i64 q, .int .i64 er]) ∧ ((er = 0 ∧ q = 0) ∨ (er = 140 ∧ q = m))) ∧ Below w.heap.size w w' := by
  rcases h with ⟨x, hx⟩ | hx
  · exact (parseb_good w S L m c x hS hm hn he hx).mono (by
      rintro e w' ⟨⟨A1, n1, c1, rfl, _⟩, hb⟩
      exact ⟨⟨A1, n1, c1, 0, 0, rfl, Or.inl ⟨rfl, rfl⟩⟩, hb⟩)
  · exact (parseb_bad w S L m c m 140 hS hm hn he hx).mono (by
      rintro e w' ⟨rfl, hb⟩
      exact ⟨⟨none, 0, 0, m, 140, rfl, Or.inr ⟨rfl, rfl⟩⟩, hb⟩)
theorem tail_any {w : World} (he : EnvP w) (S : ByteArray) (L : List UInt8) (m c : Nat) (hS : S.data.toList = L) (hm : L.length = m) (hn : m ≤ 65536) :
    Calls Tryz.prog 24 #[.slice (some ⟨w.heap.size, 0, none⟩) m c] (Lib.bytesWorld w 5 S) fun e w' => (∃ (A1 : Option Addr) (n1 c1 : Nat) (q er : Int), e = .returned (.tuple #[.agg #[.slice A1 n1 c1], .int .i64 q, .int .i64 er])) ∧ Below w.heap.size w w' := by
  cases hx : parseS L with
  | ok x => exact (parseb_good w S L m c x hS hm hn he hx).mono (by
      rintro e w' ⟨⟨A1, n1, c1, rfl, _⟩, hb⟩
      exact ⟨⟨A1, n1, c1, 0, 0, rfl⟩, hb⟩)
  | error q => exact (parseb_bad w S L m c q.1 q.2 hS hm hn he hx).mono (by
      rintro e w' ⟨rfl, hb⟩
      exact ⟨⟨none, 0, 0, q.1, q.2, rfl⟩, hb⟩)
theorem sends (S T M : ByteArray) : (S ++ ⟨#[32]⟩ ++ T ++ ⟨#[32]⟩ ++ M).data.toList = S.data.toList ++ 32 :: (T.data.toList ++ 32 :: M.data.toList) := by
  simp [ByteArray.data_append]

set_option maxRecDepth 100000 in
set_option maxHeartbeats 64000000 in
theorem ends_yes (A B : Option Addr) (c d : Nat) (src more : List UInt8) (p : Nat) (w : World) (hn : src.length ≤ 800) (hm : more.length ≤ 200) (ha : BytS w A src) (hb : BytS w B more) (he : EnvP w) (h : parseS src = .error (p, 140)) :
    Calls Tryz.prog 8 #[.slice A src.length c, .slice B more.length d] w fun e w' => e = .returned (.bool true) ∧ Below w.heap.size w w' := by
  obtain ⟨pre, t, post, hE⟩ := ends_law h
  obtain ⟨i0, hi0, hz0, hz1, hz2⟩ := info_parts info35
  have HEL := Lib.hid hE
  have htl := lx_many_le (show lx src 0 = .ok (pre ++ t :: post) by rw [← lexS_lx]; exact hE.lex)
  have hple := hE.le
  have hshort := hE.short
  have htlen := hE.len
  have HC := Lib.hid (parse_bad A c src p 140 w (by omega) ha he h)
  have HLX := Lib.hid (fun W (hW : Below w.heap.size w W) => lex_ok A c src (pre ++ t :: post) W (by omega) (ha.below hW) (he.ew.below hW) hE.lex)
  have HLM := Lib.hid (fun W (hW : Below w.heap.size w W) us => lex_ok B d more us W (by omega) (hb.below hW) (he.ew.below hW))
  have HLB := Lib.hid (fun W (hW : Below w.heap.size w W) q er => lex_bad B d more q er W (by omega) (hb.below hW) (he.ew.below hW))
  have HE := Lib.hid he
  obtain ⟨M, hM⟩ : ∃ S : ByteArray, S = ⟨more.toArray⟩ := ⟨_, rfl⟩
  have kB := fun W (hW : Below w.heap.size w W) => (hb.below hW).conv d
  rw [← hM] at kB
  have hMz : M.size = more.length := by rw [← len_eq, hM]
  have hMd : M.data.toList = more := by rw [hM]
  have KB := Lib.hid kB; have HMD := Lib.hid hMd
  have kS := fun W s => Lib.run_convert_string_bytes (P := Tryz.prog) W 9 30 5 s (u := .string) Tryz.underlying9 Tryz.underlying30 Tryz.underlying5
  obtain ⟨n, hnn⟩ : ∃ n, n = src.length := ⟨_, rfl⟩
  obtain ⟨m, hmm⟩ : ∃ m, m = more.length := ⟨_, rfl⟩
  obtain ⟨N, hNN⟩ : ∃ N, N = (pre ++ t :: post).length := ⟨_, rfl⟩
  obtain ⟨k, hkk⟩ : ∃ k, k = pre.length := ⟨_, rfl⟩
  have hkN : k < N := by rw [hNN, hkk, List.length_append, List.length_cons]; omega
  have HK := Lib.hid hkk
  have e1 : ¬ (800 : Int) < (n : Int) := by omega
  have e2 : ¬ (200 : Int) < (m : Int) := by omega
  have e3 : ¬ (p : Int) < 0 := by omega
  have e4 : ¬ (n : Int) < (p : Int) := by omega
  rw [← hnn] at HC HLX hn htl hshort htlen ⊢
  rw [← hmm] at HLM HLB KB hMz hm ⊢
  rw [← hNN] at HLX htl
  clear ha hb he h hE hnn hmm hNN hkk hM kB hMd hple
  go_enter Tryz.func8, Tryz.ntmps8
  go_wp2_with fail
  refine HC.out.mono ?_
  rintro e w1 ⟨rfl, hb1⟩
  have HB1 := Lib.hid (below_next hb1 (dropN_below w1 (.cells #[.slice none 0 0] 24)))
  clear hb1
  go_wp2_with fail
  refine (HLX.out _ HB1.out).mono ?_
  rintro e w3 ⟨A1, c1, rfl, hts, hb3⟩
  have HB3 := Lib.hid (below_next HB1.out hb3)
  have HTS := Lib.hid hts
  clear hb3 hts HLX HC
  go_wp2_with fail
  go_loopg [11, 12] k (fun gk v11 v12 wr => ∃ i : Nat, i ≤ k ∧ k - i ≤ gk ∧ v12 = .int .i64 i ∧ Hid (Below w3.heap.size w3 wr) ∧ Hid (wr.ownsRow w3.heap.size 51 4 v11 i (tokCells (pre.take i))))
  case atStart => exact ⟨0, Nat.zero_le _, Nat.le_refl _, rfl, Lib.hid (Below.refl _ _), Lib.hid (World.ownsRow_nil _ _ _ _)⟩
  case round =>
    obtain ⟨i, hi, hgk, rfl, HB, HOWN⟩ := hrel
    have hiN : (i : Int) < (N : Int) := by omega
    have hi0' : (0 : Int) ≤ (i : Int) := by omega
    by_cases hlt : i < k
    case pos =>
      have hip : i < pre.length := by rw [← HK.out]; exact hlt
      obtain ⟨u, hu⟩ : ∃ u, pre[i]? = some u := ⟨_, List.getElem?_eq_getElem hip⟩
      have hu2 : (pre ++ t :: post)[i]? = some u := by rw [List.getElem?_append_left hip]; exact hu
      have hlu : (u.at' : Int) < (p : Int) := by have := HEL.out.lt u (List.mem_of_getElem? hu); omega
      rcases (HTS.out.below HB.out) with ⟨h0, _⟩ | ⟨b, o, rfl, hc⟩
      · exfalso; simp at h0
      obtain ⟨x0, x1, x2, x3⟩ := hc i u hu2
      have lb := cell_lt' x0
      have hsn : pre.take (i + 1) = pre.take i ++ [u] := by rw [List.take_add_one, hu]; rfl
      have HSN := Lib.hid hsn
      clear hc hsn hu hu2
      go_wp2_with (at_builtin; refine wpList_append_own _ rfl _ _ 45 rfl w3.heap.size 51 i0 (.agg #[.int .u8 0, .string ⟨#[]⟩, .int .i64 0, .int .i64 0]) 4 40 Tryz.underlying45 hi0 hz0 hz1 hz2 rfl (by decide) _ _ _ rfl (HOWN.out.alloc _) ⟨wr.heap.size, 0, none⟩ 1 1 [.int .u8 u.kind, .string ⟨u.text.toArray⟩, .int .i64 u.n, .int .i64 u.at'] rfl rfl (World.news_of_block (cs := #[.int .u8 u.kind, .string ⟨u.text.toArray⟩, .int .i64 u.n, .int .i64 u.at']) (t := 51) (fr := (0, 0)) (heap_alloc_new wr _)) (by simp [Value.oneCell']) (by unfold maxLen; omega) (by omega) ?_ ?_)
      · have := HB.out.size; simp; omega
      intro v' w6 hown6 hgrow _
      go_wp2_with fail
      cases gk with
      | zero => omega
      | succ gk =>
        go_roundg gk
        case measure => omega
        case rel =>
          refine ⟨i + 1, by omega, by omega, by simp, Lib.hid ((HB.out.alloc HB.out.size _).grown hgrow (by have := HB.out.size; simp; omega) (fun q e => (HOWN.out.lt q e).1)), Lib.hid ?_⟩
          rw [HSN.out, tokCells_snoc]
          exact hown6
    case neg =>
      have hieq : i = k := by omega
      subst hieq
      have hu2 : (pre ++ t :: post)[i]? = some t := by rw [HK.out, List.getElem?_append_right (Nat.le_refl _), Nat.sub_self]; rfl
      rcases (HTS.out.below HB.out) with ⟨h0, _⟩ | ⟨b, o, rfl, hc⟩
      · exfalso; simp at h0
      obtain ⟨x0, x1, x2, x3⟩ := hc i t hu2
      rw [HEL.out.at'] at x3
      have lb := cell_lt' x0
      obtain ⟨A', c', rfl⟩ := own_form HOWN.out
      have HBB := Lib.hid (below_next HB3.out HB.out)
      have hown := HOWN.out
      rw [List.take_of_length_le (Nat.le_of_eq HK.out.symm), HK.out] at hown
      have HSP := spell_any A' c' pre wr (by have := HK.out; omega) (by omega) (TokS.of_own hown)
      rw [← HK.out] at HSP
      obtain ⟨S, hS⟩ : ∃ S : ByteArray, S = ⟨(spellL pre).toArray⟩ := ⟨_, rfl⟩
      obtain ⟨ls, hls⟩ : ∃ ls, ls = (spellL pre).length := ⟨_, rfl⟩
      rw [← hS] at HSP
      have HSP := Lib.hid HSP
      have hSd : S.data.toList = spellL pre := by rw [hS]
      have hSz : S.size = ls := by rw [← len_eq, hSd, hls]
      have HSD := Lib.hid hSd
      have HLS := Lib.hid hls
      rw [← hls] at hshort
      have HX := Lib.hid (⟨x0, x1⟩ : wr.cell? ⟨b, o + i * 4, none⟩ = some (.int .u8 t.kind) ∧ wr.cell? ⟨b, o + i * 4 + 1, none⟩ = some (.string ⟨t.text.toArray⟩))
      clear hc hu2 hown hS hSd hls HTS HB HOWN HK
      go_wp2_with fail
      refine HSP.out.mono ?_
      rintro e w4 ⟨rfl, hb4⟩
      have HB4 := Lib.hid (below_next HBB.out hb4)
      have x0' : w4.cell? ⟨b, o + i * 4, none⟩ = some (.int .u8 t.kind) := (hb4.cell (p := ⟨b, _, none⟩) lb).trans x0
      have x1' : w4.cell? ⟨b, o + i * 4 + 1, none⟩ = some (.string ⟨t.text.toArray⟩) := (hb4.cell (p := ⟨b, _, none⟩) lb).trans x1
      have lb4 : b < w4.heap.size := cell_lt' x0'
      clear x0 x1 x2 x3 lb hb4 HSP HBB HX
      go_wp2_with fail
      refine (ahead_any (HE.out.below HB4.out) S _ ls _ HSD.out HLS.out.symm (by omega) (by have := HEL.out.ahead; rw [← HLS.out] at this; exact this)).mono ?_
      rintro e w5 ⟨⟨A5, n5, c5, q, er, rfl, hq⟩, hb5⟩
      have hb5' := dropN_below w5 (.cells #[.slice A5 n5 c5] 24)
      have hb6 := below_next hb5 hb5'
      have HB6 := Lib.hid (below_next HB4.out hb6)
      have x0 : (w5.alloc (.cells #[.slice A5 n5 c5] 24)).cell? ⟨b, o + i * 4, none⟩ = some (.int .u8 t.kind) := (hb6.cell (p := ⟨b, _, none⟩) lb4).trans x0'
      have x1 : (w5.alloc (.cells #[.slice A5 n5 c5] 24)).cell? ⟨b, o + i * 4 + 1, none⟩ = some (.string ⟨t.text.toArray⟩) := (hb6.cell (p := ⟨b, _, none⟩) lb4).trans x1'
      have lb : b < (w5.alloc (.cells #[.slice A5 n5 c5] 24)).heap.size := cell_lt' x0
      clear hb5 hb5' hb6 x0' x1' lb4
      rcases hq with ⟨rfl, rfl⟩ | ⟨rfl, rfl⟩
      all_goals
        go_upto_region 20 with fail
        generalize w5.alloc (.cells #[.slice A5 n5 c5] 24) = w6 at *
        by_cases h5 : t.kind = 5
        · have h5b : ((t.kind : Int) == 5) = true := by simp; omega
          go_wp2_with fail
          refine (works_good (HE.out.below HB6.out)).mono ?_
          rintro e w9 ⟨rfl, hb9⟩
          have HB9 := Lib.hid (below_next HB6.out hb9)
          clear hb9
          go_wp2_with fail
          go_ret
          exact ⟨rfl, HB9.out⟩
        · have h5b : ((t.kind : Int) == 5) = false := by simp; omega
          obtain ⟨T, hT⟩ : ∃ T : ByteArray, T = ⟨t.text.toArray⟩ := ⟨_, rfl⟩
          obtain ⟨tl, htl'⟩ : ∃ tl, tl = t.text.length := ⟨_, rfl⟩
          rw [← hT] at x1
          have hTz : T.size = tl := by rw [← len_eq, hT, htl']
          have hTd : T.data.toList = t.text := by rw [hT]
          rw [← htl'] at htlen
          have hs1 : (S ++ ⟨#[32]⟩ : ByteArray).size = ls + 1 := by rw [ByteArray.size_append, hSz]; rfl
          have hs2 : (S ++ ⟨#[32]⟩ ++ T : ByteArray).size = ls + 1 + tl := by rw [ByteArray.size_append, hs1, hTz]
          have hs3 : (S ++ ⟨#[32]⟩ ++ T ++ ⟨#[32]⟩ : ByteArray).size = ls + 1 + tl + 1 := by rw [ByteArray.size_append, hs2]; rfl
          have hs4 : (S ++ ⟨#[32]⟩ ++ T ++ ⟨#[32]⟩ ++ M : ByteArray).size = ls + 1 + tl + 1 + m := by rw [ByteArray.size_append, hs3, hMz]
          have HDD : Hid ((S ++ ⟨#[32]⟩ ++ T ++ ⟨#[32]⟩ ++ M).data.toList = spellL pre ++ 32 :: (t.text ++ 32 :: more)) := Lib.hid (by rw [sends, HSD.out, hTd, HMD.out])
          have HLL : Hid ((spellL pre ++ 32 :: (t.text ++ 32 :: more)).length = ls + 1 + tl + 1 + m) := Lib.hid (by rw [← HDD.out, len_eq, hs4])
          have HMR := Lib.hid (HEL.out.more h5 more)
          clear hT hTd htl' h5
          cases hlm : lexS more with
          | ok us =>
            have HP := HMR.out us hlm
            rw [← HLS.out] at HP
            have HP := Lib.hid HP
            have HL2 := Lib.hid hlm
            clear hlm
            go_wp2_with fail
            refine (HLM.out w6 HB6.out us HL2.out).mono ?_
            rintro e w7 ⟨A7, c7, rfl, _, hb7⟩
            have HB7 := Lib.hid (below_next HB6.out hb7)
            clear hb7
            have qB : (convert 30 9 (.slice B m d)).run Tryz.prog w7 = .ok (.string M) w7 := KB.out w7 HB7.out
            go_wp2_with fail
            refine (parseb_bad w7 _ _ (ls + 1 + tl + 1 + m) _ (ls + 1) 140 HDD.out HLL.out (by omega) (HE.out.below HB7.out) HP.out).mono ?_
            rintro e w8 ⟨rfl, hb8⟩
            have HB8 := Lib.hid (below_next (below_next HB7.out hb8) (dropN_below w8 (.cells #[.slice none 0 0] 24)))
            clear hb8 qB
            have hcst : (((ls + 1 : Nat) : Int) == (ls : Int) + 1) = true := by simp
            go_wp2_with fail
            refine (works_good (HE.out.below HB8.out)).mono ?_
            rintro e w9 ⟨rfl, hb9⟩
            have HB9 := Lib.hid (below_next HB8.out hb9)
            clear hb9
            go_wp2_with fail
            go_ret
            exact ⟨rfl, HB9.out⟩
          | error qq =>
            obtain ⟨q0, er0⟩ := qq
            have her : (er0 != 0) = true := by rcases lx_codes (show lx more 0 = .error (q0, er0) by rw [← lexS_lx]; exact hlm) with rfl | rfl <;> rfl
            have HL2 := Lib.hid hlm
            clear hlm
            go_wp2_with fail
            refine (HLB.out w6 HB6.out q0 er0 HL2.out).mono ?_
            rintro e w7 ⟨rfl, hb7⟩
            have HB7 := Lib.hid (below_next HB6.out hb7)
            clear hb7
            have qB : (convert 30 9 (.slice B m d)).run Tryz.prog w7 = .ok (.string M) w7 := KB.out w7 HB7.out
            go_wp2_with fail
            refine (tail_any (HE.out.below HB7.out) _ _ (ls + 1 + tl + 1 + m) _ HDD.out HLL.out (by omega)).mono ?_
            rintro e w8 ⟨⟨A8, n8, c8, q8, er8, rfl⟩, hb8⟩
            have HB8 := Lib.hid (below_next (below_next HB7.out hb8) (dropN_below w8 (.cells #[.slice A8 n8 c8] 24)))
            clear hb8 qB
            go_wp2_with fail
            refine (works_good (HE.out.below HB8.out)).mono ?_
            rintro e w9 ⟨rfl, hb9⟩
            have HB9 := Lib.hid (below_next HB8.out hb9)
            clear hb9
            go_wp2_with fail
            go_ret
            exact ⟨rfl, HB9.out⟩
theorem lends_any (A B : Option Addr) (c d : Nat) (src more : List UInt8) (w : World) (ha : BytS w A src) (hb : BytS w B more) (he : EnvP w) :
    Calls Tryz.prog 8 #[.slice A src.length c, .slice B more.length d] w fun e w' => e = .returned (.bool true) ∧ Below w.heap.size w w' := by
  by_cases hn : src.length ≤ 800
  · by_cases hm : more.length ≤ 200
    · by_cases hp : ∃ p, parseS src = .error (p, 140)
      · obtain ⟨p, hp⟩ := hp
        exact ends_yes A B c d src more p w hn hm ha hb he hp
      · exact ends_not A B c d _ src w hn hm ha he (fun p h => hp ⟨p, h⟩)
    · exact ends_big A B _ _ c d w he (Or.inr (by omega))
  · exact ends_big A B _ _ c d w he (Or.inl (by omega))
end Go.Proofs.YtkkeocnnecegbaaGreatDoor
