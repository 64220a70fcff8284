/- The walk over LexNames: whatever the text and the tokens, it answers true. By an AI agent. -/
import Derived.Test.YtdbkchngpbahaaaDoorNamesC
import Derived.Test.YtdbkchngpbahaaaDoorMoreWalk
import Derived.Deep.RegionHeld3
namespace Go.Proofs.YtdbkchngpbahaaaDoor
open Go.RowKit

theorem info39 : (Tryd.prog.info? 39).map (fun i => (i.zero, i.size, i.bytes)) = some (some (.agg #[.int .u8 0, .string ⟨#[]⟩, .int .i64 0, .int .i64 0]), 4, 40) := by kernel_rfl

set_option maxRecDepth 100000 in
set_option maxHeartbeats 8000000 in
theorem names_big (s : ByteArray) (a : Option Addr) (n c : Nat) (w : World) (hw : EW w) (h : 200 < s.size ∨ 30 < n) :
    Calls Tryd.prog 7 #[.string s, .slice a n c] w fun e w' => e = .returned (.bool true) ∧ Below w.heap.size w w' := by
  have HW := Lib.hid hw; clear hw
  by_cases h1 : 200 < s.size
  · have h1' : (200 : Int) < (s.size : Int) := by omega
    clear h
    go_enter Tryd.func7, Tryd.ntmps7
    go_wp2_with fail
    refine (works_any _ HW.out).mono ?_; rintro e w1 ⟨rfl, hb1⟩
    go_wp2_with fail
    go_ret
    exact ⟨rfl, hb1⟩
  · have h1' : ¬ (200 : Int) < (s.size : Int) := by omega
    have h2' : (30 : Int) < (n : Int) := by omega
    clear h h1
    go_enter Tryd.func7, Tryd.ntmps7
    go_wp2_with fail
    refine (works_any _ HW.out).mono ?_; rintro e w1 ⟨rfl, hb1⟩
    go_wp2_with fail
    go_ret
    exact ⟨rfl, hb1⟩

theorem isName_v (s : ByteArray) (v : Bool) (w : World) (hs : s.size ≤ 200) (hv : isNameS s.data.toList = v) :
    Calls Tryd.prog 14 #[.string s] w fun e w' => e = .returned (.bool v) ∧ Below w.heap.size w w' := hv ▸ isName_any s w (by omega)
theorem rIsName_v (s : ByteArray) (v : Bool) (w : World) (hs : s.size ≤ 200) (hv : isNameS s.data.toList = v) :
    Calls Tryd.prog 15 #[.string s] w fun e w' => e = .returned (.bool v) ∧ Below w.heap.size w w' := hv ▸ rIsName_any s w (by omega)
theorem spell_len {ts : List Tok} (hT : ∀ t ∈ ts, t.text.length ≤ 100) : ∀ j, j ≤ ts.length → (spellL (ts.take j)).length ≤ 101 * j := by
  intro j
  induction j with
  | zero => intro _; exact Nat.zero_le _
  | succ j ih =>
    intro h
    exact spell_step hT (List.getElem?_eq_getElem (by omega)) (ih (by omega))
theorem spell_len' {ts : List Tok} (hT : ∀ t ∈ ts, t.text.length ≤ 100) (hn : ts.length ≤ 30) : (spellL ts).length ≤ 3030 := by
  have := spell_len hT ts.length (Nat.le_refl _)
  rw [List.take_length] at this; omega
theorem gspell_v (a : Option Addr) (n c : Nat) (gs : List GTok) (S : ByteArray) (w : World) (hn : gs.length = n) (h30 : n ≤ 30) (hT : ∀ t ∈ toks gs, t.text.length ≤ 100) (h : GTokS w a gs) (hS : S = ⟨(spellL (toks gs)).toArray⟩) :
    Calls Tryd.prog 13 #[.slice a n c] w fun e w' => e = .returned (.string S) ∧ Below w.heap.size w w' := by
  subst hn hS
  exact gspell_any a c gs w (by omega) (by have := spell_len' hT (by rw [toks_len]; exact h30); omega) h
set_option maxHeartbeats 400000 in
theorem rspell_zero (a : Option Addr) (c : Nat) (w : World) :
    Calls Tryd.prog 16 #[.slice a 0 c] w fun e w' => e = .returned (.string ⟨(spellL []).toArray⟩) ∧ w = w' := by
  go_enter Tryd.func16, Tryd.ntmps16
  go_wp2_with fail
  refine wp_loop_rounds 1 ?_
  rw [rounds_succ]
  go_wp2_with fail
  go_ret
  exact ⟨rfl, rfl⟩
theorem rspell_v (base n : Nat) (v : Value) (gs : List GTok) (S : ByteArray) (w : World) (hn : gs.length = n) (h30 : n ≤ 30) (hT : ∀ t ∈ toks gs, t.text.length ≤ 100) (h : w.ownsRow base 39 4 v n (gCells gs)) (hS : S = ⟨(spellL (toks gs)).toArray⟩) :
    Calls Tryd.prog 16 #[v] w fun e w' => e = .returned (.string S) ∧ w = w' := by
  subst hn hS
  obtain ⟨A, c, rfl⟩ : ∃ A c, v = .slice A gs.length c := own_form h
  rcases GTokS.of_own h with ⟨rfl, _⟩ | ⟨b, o, rfl, hc⟩
  · exact rspell_zero A c w
  · exact rspell_go b o c gs w h30 hT hc
/-- The tokens that were met so far are short, and lie in a row of the call's own. -/
def NamesRel (w wr : World) (gs : List GTok) (k : Nat) (v : Value) : Prop := wr.ownsRow w.heap.size 39 4 v k (gCells (gs.take k)) ∧ ∀ t ∈ toks (gs.take k), t.text.length ≤ 100
theorem toks_snoc {gs : List GTok} {k : Nat} {g : GTok} (h : gs[k]? = some g) : toks (gs.take (k + 1)) = toks (gs.take k) ++ [g.1] := by
  rw [List.take_add_one, h]; simp [toks]
theorem gCells_take {gs : List GTok} {k : Nat} {g : GTok} (h : gs[k]? = some g) : gCells (gs.take (k + 1)) = gCells (gs.take k) ++ gV g := by
  rw [List.take_add_one, h]; exact gCells_snoc _ _

set_option maxRecDepth 100000 in
set_option maxHeartbeats 16000000 in
theorem names_small (s : ByteArray) (b o c : Nat) (gs : List GTok) (w : World) (hw : EW w) (hs : s.size ≤ 200) (hn : gs.length ≤ 30) (hne : 0 < gs.length) (hg : ∀ i t, gs[i]? = some t → gAt w b (o + i * 4) t) :
    Calls Tryd.prog 7 #[.string s, .slice (some ⟨b, o, none⟩) gs.length c] w fun e w' => e = .returned (.bool true) ∧ Below w.heap.size w w' := by
  obtain ⟨i0, hi0, hz0, hz1, hz2⟩ := info_parts info39
  have HGA := Lib.hid hg
  have HW := Lib.hid hw; clear hw hg
  obtain ⟨g0, hg0⟩ : ∃ g, gs[0]? = some g := ⟨_, List.getElem?_eq_getElem hne⟩
  have hbw : b < w.heap.size := cell_lt' (HGA.out 0 g0 hg0).1
  have HGT : Hid (GTokS w (some ⟨b, o, none⟩) gs) := Lib.hid (Or.inr ⟨b, o, rfl, HGA.out⟩)
  obtain ⟨SP, hSP⟩ : ∃ SP : ByteArray, SP = ⟨(spellL (toks gs)).toArray⟩ := ⟨_, rfl⟩
  have HSP := Lib.hid hSP
  obtain ⟨n, hGN⟩ : ∃ n, gs.length = n := ⟨_, rfl⟩
  rw [hGN] at hn ⊢
  have HGN := Lib.hid hGN
  have h1' : ¬ (200 : Int) < (s.size : Int) := by omega
  have h2' : ¬ (30 : Int) < (n : Int) := by omega
  clear hSP hGN hg0 hne
  go_enter Tryd.func7, Tryd.ntmps7
  go_wp2_with fail
  go_loopw [5, 6] (fun m i wr => ∃ k : Nat, k ≤ n ∧ i = .int .i64 k ∧ Below w.heap.size w wr ∧ Hid (NamesRel w wr gs k m)) (fun _ i _ => n - (intOf i).toNat)
  case atStart => exact ⟨0, Nat.zero_le _, rfl, Below.refl _ _, Lib.hid ⟨World.ownsRow_nil _ _ _ _, by simp [toks]⟩⟩
  case round =>
    obtain ⟨k, hk, rfl, hbr, HREL⟩ := hrel
    by_cases hlt : k < n
    · obtain ⟨g, hg'⟩ : ∃ g, gs[k]? = some g := ⟨_, List.getElem?_eq_getElem (by rw [HGN.out]; exact hlt)⟩
      obtain ⟨e0, e1, e2, e3⟩ := (HGA.out k g hg').below hbr
      have HG := Lib.hid hg'
      obtain ⟨t, A⟩ := g
      simp only at e0 e1 e2 e3
      clear hg'
      have hsz := hbr.size
      by_cases h100 : 100 < t.text.length
      · have h100' : (100 : Int) < (t.text.length : Int) := by omega
        go_wp2_with fail
        refine (works_any _ (HW.out.below hbr)).mono ?_; rintro e w1 ⟨rfl, hb1⟩
        go_wp2_with fail
        go_ret
        exact ⟨rfl, below_next hbr hb1⟩
      · have h100' : ¬ (100 : Int) < (t.text.length : Int) := by omega
        have kb0 : (0 : Int) ≤ (k : Int) := by omega
        have kb1 : (k : Int) < (n : Int) := by omega
        have HAG : Hid (some b ≠ u5.ownBlock) := Lib.hid (fun e => by have h : w.heap.size ≤ b := (HREL.out.1.lt b e.symm).1; omega)
        go_upto_region 9 with fail
        go_region_held3 (fun w' => w'.cell? ⟨b, o + k * 4, none⟩ = some (.int .u8 t.kind) ∧ w'.cell? ⟨b, o + k * 4 + 1, none⟩ = some (.string ⟨t.text.toArray⟩) ∧ w'.cell? ⟨b, o + k * 4 + 2, none⟩ = some (.int .i64 t.n) ∧ w'.cell? ⟨b, o + k * 4 + 3, none⟩ = some (.int .i64 A))
          (first
            | go_keep
            | (go_split_ands
               refine ⟨?_, ?_, ?_, ?_⟩
               · (rw [hgrow.cell_far _ (by simp; omega) HAG.out]; assumption)
               · (rw [hgrow.cell_far _ (by simp; omega) HAG.out]; assumption)
               · (rw [hgrow.cell_far _ (by simp; omega) HAG.out]; assumption)
               · (rw [hgrow.cell_far _ (by simp; omega) HAG.out]; assumption)))
          ((refine step_append_lies _ (by rfl) _ _ _ (by rfl) w.heap.size 39 i0 _ 4 40 Tryd.underlying28 hi0 hz0 hz1 hz2 rfl (by omega) u5 k (gCells (gs.take k)) (by rfl) ((HREL.out.1.alloc _).drew)
              ⟨wr.heap.size, 0, none⟩ 1 1 [.int .u8 t.kind, .string ⟨t.text.toArray⟩, .int .i64 t.n, .int .i64 A] (by rfl) (by rfl) (World.news_of_block (cs := #[.int .u8 t.kind, .string ⟨t.text.toArray⟩, .int .i64 t.n, .int .i64 A]) (t := 39) (fr := (0, 0)) (heap_alloc_new wr _)) (by simp [Value.oneCell'])
              (by omega) (by unfold maxLen; omega) (by omega) (by simp; omega) (wr.heap.size + 1) (by simp) ?_; intro gg cap w1 hown1 hgrow hat hlt1))
        go_wp2_with fail
        go_roundw
        case rel =>
          refine ⟨k + 1, by omega, by go_num, (((hbr.alloc hsz _).drew)).grown hgrow (by simp; omega) (fun q e => (HREL.out.1.lt q e).1), Lib.hid ⟨?_, ?_⟩⟩
          · rw [gCells_take HG.out]; exact hown1
          · intro u hu
            rw [toks_snoc HG.out, List.mem_append] at hu
            rcases hu with hu | hu
            · exact HREL.out.2 u hu
            · simp at hu; subst hu; omega
        case measure => simp [intOf]; omega
    · have hkn : k = n := by omega
      subst hkn
      have hjn : gs.take k = gs := List.take_of_length_le (by rw [HGN.out]; exact Nat.le_refl _)
      rw [NamesRel, hjn] at HREL
      clear hjn hlt hk
      -- the loop is over
      have kS := Lib.run_convert_string_bytes (P := Tryd.prog) wr 9 22 5 s (u := .string) Tryd.underlying9 Tryd.underlying22 Tryd.underlying5
      have hBy := byts_bytes wr s
      have hBB := Lib.bytesWorld_below wr 5 s
      have HBB := Lib.hid (below_next hbr hBB)
      have HOWB := Lib.hid (own_below HREL.out.1 hBB)
      have HTT := Lib.hid HREL.out.2
      have HBY := Lib.hid hBy
      have hsl := len_eq s
      have HSL := Lib.hid hsl
      clear hBy hBB hbr hsl
      go_wp2_with fail
      cases hA : lexS s.data.toList with
      | error ee =>
        obtain ⟨p, er⟩ := ee
        have her : ((er : Int) == 0) = false := by rcases lx_code hA with rfl | rfl <;> rfl
        have hern : ¬ (er : Int) = 0 := by rcases lx_code hA with rfl | rfl <;> decide
        have HB : Hid (isNameS s.data.toList = false) := Lib.hid (by
          cases h : isNameS s.data.toList
          · rfl
          · rw [name_yes h] at hA; cases hA)
        have HLA := Lib.hid (lex_bad _ (grownCap wr s.size 0 5) _ p er _ (by rw [HSL.out]; omega) HBY.out (HW.out.below HBB.out) hA)
        rw [HSL.out] at HLA
        clear hA
        refine HLA.out.mono ?_; rintro e w5 ⟨rfl, hb5⟩
        have HB5 := Lib.hid (below_next HBB.out hb5)
        have HOW := Lib.hid (own_below HOWB.out hb5)
        clear hb5 kS HLA HBB HOWB
        go_wp2_with fail
        refine (isName_v s false _ hs HB.out).mono ?_; rintro e w6 ⟨rfl, hb6⟩
        go_wp2_with fail
        refine (rIsName_v s false _ hs HB.out).mono ?_; rintro e w7 ⟨rfl, hb7⟩
        go_wp2_with fail
        refine (isName_v s false _ hs HB.out).mono ?_; rintro e w8 ⟨rfl, hb8⟩
        go_wp2_with fail
        have HBX := Lib.hid (below_next (below_next (below_next HB5.out hb6) hb7) hb8)
        refine (gspell_v _ _ _ gs SP _ HGN.out hn HTT.out (HGT.out.below HBX.out) HSP.out).mono ?_; rintro e w9 ⟨rfl, hb9⟩
        go_wp2_with fail
        refine (rspell_v _ _ _ gs SP _ HGN.out hn HTT.out (own_below (own_below (own_below (own_below HOW.out hb6) hb7) hb8) hb9) HSP.out).mono ?_; rintro e w10 ⟨rfl, rfl⟩
        go_wp2_with fail
        have HBY := Lib.hid (below_next HBX.out hb9)
        refine (works_any _ (HW.out.below HBY.out)).mono ?_; rintro e w11 ⟨rfl, hb11⟩
        go_wp2_with fail
        go_ret
        exact ⟨rfl, below_next HBY.out hb11⟩
      | ok ts =>
        have HA := Lib.hid hA
        have HLA := Lib.hid (lex_ok _ (grownCap wr s.size 0 5) _ ts _ (by rw [HSL.out]; omega) HBY.out (HW.out.below HBB.out) hA)
        rw [HSL.out] at HLA
        clear hA
        refine HLA.out.mono ?_; rintro e w5 ⟨AX, cx, rfl, htx, hb5⟩
        have HB5 := Lib.hid (below_next HBB.out hb5)
        have HOW := Lib.hid (own_below HOWB.out hb5)
        obtain ⟨nt, hnt⟩ : ∃ k, k = ts.length := ⟨_, rfl⟩
        have HNT := Lib.hid hnt
        rw [← HNT.out]
        clear hb5 kS HLA HBB HOWB hnt
        by_cases h2 : nt = 2
        · subst h2
          obtain ⟨t, u, rfl⟩ : ∃ t u, ts = [t, u] := by
            have := HNT.out
            match ts, this with
            | [t, u], _ => exact ⟨t, u, rfl⟩
          rcases htx with ⟨h, _⟩ | ⟨bx, ox, rfl, hx⟩
          · cases h
          obtain ⟨x0, x1, x2, x3⟩ := hx 0 t rfl
          rw [Nat.zero_mul, Nat.add_zero] at x0 x1
          clear hx x2 x3
          by_cases hk1 : t.kind = 1
          · rw [hk1] at x0
            by_cases ht : t.text = s.data.toList
            · have HB : Hid (isNameS s.data.toList = true) := Lib.hid (name_no HA.out hk1 ht)
              have hq : (t.text == s.toList) = true := by rw [ByteArray.toList_eq, ht]; simp
              clear ht hk1
              go_wp2_with fail
              refine (isName_v s true _ hs HB.out).mono ?_; rintro e w6 ⟨rfl, hb6⟩
              go_wp2_with fail
              refine (rIsName_v s true _ hs HB.out).mono ?_; rintro e w7 ⟨rfl, hb7⟩
              go_wp2_with fail
              refine (isName_v s true _ hs HB.out).mono ?_; rintro e w8 ⟨rfl, hb8⟩
              go_wp2_with fail
              have HBX := Lib.hid (below_next (below_next (below_next HB5.out hb6) hb7) hb8)
              refine (gspell_v _ _ _ gs SP _ HGN.out hn HTT.out (HGT.out.below HBX.out) HSP.out).mono ?_; rintro e w9 ⟨rfl, hb9⟩
              go_wp2_with fail
              refine (rspell_v _ _ _ gs SP _ HGN.out hn HTT.out (own_below (own_below (own_below (own_below HOW.out hb6) hb7) hb8) hb9) HSP.out).mono ?_; rintro e w10 ⟨rfl, rfl⟩
              go_wp2_with fail
              have HBY := Lib.hid (below_next HBX.out hb9)
              refine (works_any _ (HW.out.below HBY.out)).mono ?_; rintro e w11 ⟨rfl, hb11⟩
              go_wp2_with fail
              go_ret
              exact ⟨rfl, below_next HBY.out hb11⟩
            · have HB : Hid (isNameS s.data.toList = false) := Lib.hid (by
                cases h : isNameS s.data.toList
                · rfl
                · have := HA.out
                  rw [name_yes h] at this
                  injection this with this
                  injection this with this _
                  exact absurd (by rw [← this]) ht)
              have hq : (t.text == s.toList) = false := by rw [ByteArray.toList_eq]; simp [ht]
              clear ht hk1
              go_wp2_with fail
              refine (isName_v s false _ hs HB.out).mono ?_; rintro e w6 ⟨rfl, hb6⟩
              go_wp2_with fail
              refine (rIsName_v s false _ hs HB.out).mono ?_; rintro e w7 ⟨rfl, hb7⟩
              go_wp2_with fail
              refine (isName_v s false _ hs HB.out).mono ?_; rintro e w8 ⟨rfl, hb8⟩
              go_wp2_with fail
              have HBX := Lib.hid (below_next (below_next (below_next HB5.out hb6) hb7) hb8)
              refine (gspell_v _ _ _ gs SP _ HGN.out hn HTT.out (HGT.out.below HBX.out) HSP.out).mono ?_; rintro e w9 ⟨rfl, hb9⟩
              go_wp2_with fail
              refine (rspell_v _ _ _ gs SP _ HGN.out hn HTT.out (own_below (own_below (own_below (own_below HOW.out hb6) hb7) hb8) hb9) HSP.out).mono ?_; rintro e w10 ⟨rfl, rfl⟩
              go_wp2_with fail
              have HBY := Lib.hid (below_next HBX.out hb9)
              refine (works_any _ (HW.out.below HBY.out)).mono ?_; rintro e w11 ⟨rfl, hb11⟩
              go_wp2_with fail
              go_ret
              exact ⟨rfl, below_next HBY.out hb11⟩
          · have HB : Hid (isNameS s.data.toList = false) := Lib.hid (by
              cases h : isNameS s.data.toList
              · rfl
              · have := HA.out
                rw [name_yes h] at this
                injection this with this
                injection this with this _
                exact absurd (by rw [← this]) hk1)
            have hk1' : ((t.kind : Int) == 1) = false := by rw [beq_eq_false_iff_ne]; omega
            have hk1n : ¬ (t.kind : Int) = 1 := by omega
            clear hk1
            go_wp2_with fail
            refine (isName_v s false _ hs HB.out).mono ?_; rintro e w6 ⟨rfl, hb6⟩
            go_wp2_with fail
            refine (rIsName_v s false _ hs HB.out).mono ?_; rintro e w7 ⟨rfl, hb7⟩
            go_wp2_with fail
            refine (isName_v s false _ hs HB.out).mono ?_; rintro e w8 ⟨rfl, hb8⟩
            go_wp2_with fail
            have HBX := Lib.hid (below_next (below_next (below_next HB5.out hb6) hb7) hb8)
            refine (gspell_v _ _ _ gs SP _ HGN.out hn HTT.out (HGT.out.below HBX.out) HSP.out).mono ?_; rintro e w9 ⟨rfl, hb9⟩
            go_wp2_with fail
            refine (rspell_v _ _ _ gs SP _ HGN.out hn HTT.out (own_below (own_below (own_below (own_below HOW.out hb6) hb7) hb8) hb9) HSP.out).mono ?_; rintro e w10 ⟨rfl, rfl⟩
            go_wp2_with fail
            have HBY := Lib.hid (below_next HBX.out hb9)
            refine (works_any _ (HW.out.below HBY.out)).mono ?_; rintro e w11 ⟨rfl, hb11⟩
            go_wp2_with fail
            go_ret
            exact ⟨rfl, below_next HBY.out hb11⟩
        · have HB : Hid (isNameS s.data.toList = false) := Lib.hid (by
            cases h : isNameS s.data.toList
            · rfl
            · have := HA.out
              rw [name_yes h] at this
              injection this with this
              exact absurd (by rw [HNT.out, ← this]; rfl) h2)
          have h2' : ((nt : Int) == 2) = false := by rw [beq_eq_false_iff_ne]; omega
          have h2n : ¬ (nt : Int) = 2 := by omega
          clear h2 htx
          go_wp2_with fail
          refine (isName_v s false _ hs HB.out).mono ?_; rintro e w6 ⟨rfl, hb6⟩
          go_wp2_with fail
          refine (rIsName_v s false _ hs HB.out).mono ?_; rintro e w7 ⟨rfl, hb7⟩
          go_wp2_with fail
          refine (isName_v s false _ hs HB.out).mono ?_; rintro e w8 ⟨rfl, hb8⟩
          go_wp2_with fail
          have HBX := Lib.hid (below_next (below_next (below_next HB5.out hb6) hb7) hb8)
          refine (gspell_v _ _ _ gs SP _ HGN.out hn HTT.out (HGT.out.below HBX.out) HSP.out).mono ?_; rintro e w9 ⟨rfl, hb9⟩
          go_wp2_with fail
          refine (rspell_v _ _ _ gs SP _ HGN.out hn HTT.out (own_below (own_below (own_below (own_below HOW.out hb6) hb7) hb8) hb9) HSP.out).mono ?_; rintro e w10 ⟨rfl, rfl⟩
          go_wp2_with fail
          have HBY := Lib.hid (below_next HBX.out hb9)
          refine (works_any _ (HW.out.below HBY.out)).mono ?_; rintro e w11 ⟨rfl, hb11⟩
          go_wp2_with fail
          go_ret
          exact ⟨rfl, below_next HBY.out hb11⟩

set_option maxRecDepth 100000 in
set_option maxHeartbeats 16000000 in
theorem names_none (s : ByteArray) (a : Option Addr) (c : Nat) (w : World) (hw : EW w) (hs : s.size ≤ 200) :
    Calls Tryd.prog 7 #[.string s, .slice a 0 c] w fun e w' => e = .returned (.bool true) ∧ Below w.heap.size w w' := by
  obtain ⟨gs, hgs⟩ : ∃ gs : List GTok, gs = [] := ⟨_, rfl⟩
  have HW := Lib.hid hw; clear hw
  have HGT : Hid (GTokS w a gs) := Lib.hid (Or.inl ⟨hgs, trivial⟩)
  obtain ⟨SP, hSP⟩ : ∃ SP : ByteArray, SP = ⟨(spellL (toks gs)).toArray⟩ := ⟨_, rfl⟩
  have HSP := Lib.hid hSP
  have HGN : Hid (gs.length = 0) := Lib.hid (by rw [hgs]; rfl)
  have hn : 0 ≤ 30 := by omega
  have HREL : Hid (NamesRel w w gs 0 (.slice none 0 0)) := Lib.hid ⟨World.ownsRow_nil _ _ _ _, by simp [toks]⟩
  have h1' : ¬ (200 : Int) < (s.size : Int) := by omega
  have hjn : gs.take 0 = gs := by rw [hgs]; rfl
  rw [NamesRel, hjn] at HREL
  obtain ⟨wr, hwr⟩ : ∃ wr, wr = w := ⟨_, rfl⟩
  have hbr : Below w.heap.size w w := Below.refl _ _
  clear hSP hjn hgs hwr wr
  go_enter Tryd.func7, Tryd.ntmps7
  go_wp2_with fail
  refine wp_loop_rounds 1 ?_
  rw [rounds_succ]
  -- the loop is over
  have kS := Lib.run_convert_string_bytes (P := Tryd.prog) w 9 22 5 s (u := .string) Tryd.underlying9 Tryd.underlying22 Tryd.underlying5
  have hBy := byts_bytes w s
  have hBB := Lib.bytesWorld_below w 5 s
  have HBB := Lib.hid (below_next hbr hBB)
  have HOWB := Lib.hid (own_below HREL.out.1 hBB)
  have HTT := Lib.hid HREL.out.2
  have HBY := Lib.hid hBy
  have hsl := len_eq s
  have HSL := Lib.hid hsl
  clear hBy hBB hbr hsl
  go_wp2_with fail
  cases hA : lexS s.data.toList with
  | error ee =>
    obtain ⟨p, er⟩ := ee
    have her : ((er : Int) == 0) = false := by rcases lx_code hA with rfl | rfl <;> rfl
    have hern : ¬ (er : Int) = 0 := by rcases lx_code hA with rfl | rfl <;> decide
    have HB : Hid (isNameS s.data.toList = false) := Lib.hid (by
      cases h : isNameS s.data.toList
      · rfl
      · rw [name_yes h] at hA; cases hA)
    have HLA := Lib.hid (lex_bad _ (grownCap w s.size 0 5) _ p er _ (by rw [HSL.out]; omega) HBY.out (HW.out.below HBB.out) hA)
    rw [HSL.out] at HLA
    clear hA
    refine HLA.out.mono ?_; rintro e w5 ⟨rfl, hb5⟩
    have HB5 := Lib.hid (below_next HBB.out hb5)
    have HOW := Lib.hid (own_below HOWB.out hb5)
    clear hb5 kS HLA HBB HOWB
    go_wp2_with fail
    refine (isName_v s false _ hs HB.out).mono ?_; rintro e w6 ⟨rfl, hb6⟩
    go_wp2_with fail
    refine (rIsName_v s false _ hs HB.out).mono ?_; rintro e w7 ⟨rfl, hb7⟩
    go_wp2_with fail
    refine (isName_v s false _ hs HB.out).mono ?_; rintro e w8 ⟨rfl, hb8⟩
    go_wp2_with fail
    have HBX := Lib.hid (below_next (below_next (below_next HB5.out hb6) hb7) hb8)
    refine (gspell_v _ _ _ gs SP _ HGN.out hn HTT.out (HGT.out.below HBX.out) HSP.out).mono ?_; rintro e w9 ⟨rfl, hb9⟩
    go_wp2_with fail
    refine (rspell_v _ _ _ gs SP _ HGN.out hn HTT.out (own_below (own_below (own_below (own_below HOW.out hb6) hb7) hb8) hb9) HSP.out).mono ?_; rintro e w10 ⟨rfl, rfl⟩
    go_wp2_with fail
    have HBY := Lib.hid (below_next HBX.out hb9)
    refine (works_any _ (HW.out.below HBY.out)).mono ?_; rintro e w11 ⟨rfl, hb11⟩
    go_wp2_with fail
    go_ret
    exact ⟨rfl, below_next HBY.out hb11⟩
  | ok ts =>
    have HA := Lib.hid hA
    have HLA := Lib.hid (lex_ok _ (grownCap w s.size 0 5) _ ts _ (by rw [HSL.out]; omega) HBY.out (HW.out.below HBB.out) hA)
    rw [HSL.out] at HLA
    clear hA
    refine HLA.out.mono ?_; rintro e w5 ⟨AX, cx, rfl, htx, hb5⟩
    have HB5 := Lib.hid (below_next HBB.out hb5)
    have HOW := Lib.hid (own_below HOWB.out hb5)
    obtain ⟨nt, hnt⟩ : ∃ k, k = ts.length := ⟨_, rfl⟩
    have HNT := Lib.hid hnt
    rw [← HNT.out]
    clear hb5 kS HLA HBB HOWB hnt
    by_cases h2 : nt = 2
    · subst h2
      obtain ⟨t, u, rfl⟩ : ∃ t u, ts = [t, u] := by
        have := HNT.out
        match ts, this with
        | [t, u], _ => exact ⟨t, u, rfl⟩
      rcases htx with ⟨h, _⟩ | ⟨bx, ox, rfl, hx⟩
      · cases h
      obtain ⟨x0, x1, x2, x3⟩ := hx 0 t rfl
      rw [Nat.zero_mul, Nat.add_zero] at x0 x1
      clear hx x2 x3
      by_cases hk1 : t.kind = 1
      · rw [hk1] at x0
        by_cases ht : t.text = s.data.toList
        · have HB : Hid (isNameS s.data.toList = true) := Lib.hid (name_no HA.out hk1 ht)
          have hq : (t.text == s.toList) = true := by rw [ByteArray.toList_eq, ht]; simp
          clear ht hk1
          go_wp2_with fail
          refine (isName_v s true _ hs HB.out).mono ?_; rintro e w6 ⟨rfl, hb6⟩
          go_wp2_with fail
          refine (rIsName_v s true _ hs HB.out).mono ?_; rintro e w7 ⟨rfl, hb7⟩
          go_wp2_with fail
          refine (isName_v s true _ hs HB.out).mono ?_; rintro e w8 ⟨rfl, hb8⟩
          go_wp2_with fail
          have HBX := Lib.hid (below_next (below_next (below_next HB5.out hb6) hb7) hb8)
          refine (gspell_v _ _ _ gs SP _ HGN.out hn HTT.out (HGT.out.below HBX.out) HSP.out).mono ?_; rintro e w9 ⟨rfl, hb9⟩
          go_wp2_with fail
          refine (rspell_v _ _ _ gs SP _ HGN.out hn HTT.out (own_below (own_below (own_below (own_below HOW.out hb6) hb7) hb8) hb9) HSP.out).mono ?_; rintro e w10 ⟨rfl, rfl⟩
          go_wp2_with fail
          have HBY := Lib.hid (below_next HBX.out hb9)
          refine (works_any _ (HW.out.below HBY.out)).mono ?_; rintro e w11 ⟨rfl, hb11⟩
          go_wp2_with fail
          go_ret
          exact ⟨rfl, below_next HBY.out hb11⟩
        · have HB : Hid (isNameS s.data.toList = false) := Lib.hid (by
            cases h : isNameS s.data.toList
            · rfl
            · have := HA.out
              rw [name_yes h] at this
              injection this with this
              injection this with this _
              exact absurd (by rw [← this]) ht)
          have hq : (t.text == s.toList) = false := by rw [ByteArray.toList_eq]; simp [ht]
          clear ht hk1
          go_wp2_with fail
          refine (isName_v s false _ hs HB.out).mono ?_; rintro e w6 ⟨rfl, hb6⟩
          go_wp2_with fail
          refine (rIsName_v s false _ hs HB.out).mono ?_; rintro e w7 ⟨rfl, hb7⟩
          go_wp2_with fail
          refine (isName_v s false _ hs HB.out).mono ?_; rintro e w8 ⟨rfl, hb8⟩
          go_wp2_with fail
          have HBX := Lib.hid (below_next (below_next (below_next HB5.out hb6) hb7) hb8)
          refine (gspell_v _ _ _ gs SP _ HGN.out hn HTT.out (HGT.out.below HBX.out) HSP.out).mono ?_; rintro e w9 ⟨rfl, hb9⟩
          go_wp2_with fail
          refine (rspell_v _ _ _ gs SP _ HGN.out hn HTT.out (own_below (own_below (own_below (own_below HOW.out hb6) hb7) hb8) hb9) HSP.out).mono ?_; rintro e w10 ⟨rfl, rfl⟩
          go_wp2_with fail
          have HBY := Lib.hid (below_next HBX.out hb9)
          refine (works_any _ (HW.out.below HBY.out)).mono ?_; rintro e w11 ⟨rfl, hb11⟩
          go_wp2_with fail
          go_ret
          exact ⟨rfl, below_next HBY.out hb11⟩
      · have HB : Hid (isNameS s.data.toList = false) := Lib.hid (by
          cases h : isNameS s.data.toList
          · rfl
          · have := HA.out
            rw [name_yes h] at this
            injection this with this
            injection this with this _
            exact absurd (by rw [← this]) hk1)
        have hk1' : ((t.kind : Int) == 1) = false := by rw [beq_eq_false_iff_ne]; omega
        have hk1n : ¬ (t.kind : Int) = 1 := by omega
        clear hk1
        go_wp2_with fail
        refine (isName_v s false _ hs HB.out).mono ?_; rintro e w6 ⟨rfl, hb6⟩
        go_wp2_with fail
        refine (rIsName_v s false _ hs HB.out).mono ?_; rintro e w7 ⟨rfl, hb7⟩
        go_wp2_with fail
        refine (isName_v s false _ hs HB.out).mono ?_; rintro e w8 ⟨rfl, hb8⟩
        go_wp2_with fail
        have HBX := Lib.hid (below_next (below_next (below_next HB5.out hb6) hb7) hb8)
        refine (gspell_v _ _ _ gs SP _ HGN.out hn HTT.out (HGT.out.below HBX.out) HSP.out).mono ?_; rintro e w9 ⟨rfl, hb9⟩
        go_wp2_with fail
        refine (rspell_v _ _ _ gs SP _ HGN.out hn HTT.out (own_below (own_below (own_below (own_below HOW.out hb6) hb7) hb8) hb9) HSP.out).mono ?_; rintro e w10 ⟨rfl, rfl⟩
        go_wp2_with fail
        have HBY := Lib.hid (below_next HBX.out hb9)
        refine (works_any _ (HW.out.below HBY.out)).mono ?_; rintro e w11 ⟨rfl, hb11⟩
        go_wp2_with fail
        go_ret
        exact ⟨rfl, below_next HBY.out hb11⟩
    · have HB : Hid (isNameS s.data.toList = false) := Lib.hid (by
        cases h : isNameS s.data.toList
        · rfl
        · have := HA.out
          rw [name_yes h] at this
          injection this with this
          exact absurd (by rw [HNT.out, ← this]; rfl) h2)
      have h2' : ((nt : Int) == 2) = false := by rw [beq_eq_false_iff_ne]; omega
      have h2n : ¬ (nt : Int) = 2 := by omega
      clear h2 htx
      go_wp2_with fail
      refine (isName_v s false _ hs HB.out).mono ?_; rintro e w6 ⟨rfl, hb6⟩
      go_wp2_with fail
      refine (rIsName_v s false _ hs HB.out).mono ?_; rintro e w7 ⟨rfl, hb7⟩
      go_wp2_with fail
      refine (isName_v s false _ hs HB.out).mono ?_; rintro e w8 ⟨rfl, hb8⟩
      go_wp2_with fail
      have HBX := Lib.hid (below_next (below_next (below_next HB5.out hb6) hb7) hb8)
      refine (gspell_v _ _ _ gs SP _ HGN.out hn HTT.out (HGT.out.below HBX.out) HSP.out).mono ?_; rintro e w9 ⟨rfl, hb9⟩
      go_wp2_with fail
      refine (rspell_v _ _ _ gs SP _ HGN.out hn HTT.out (own_below (own_below (own_below (own_below HOW.out hb6) hb7) hb8) hb9) HSP.out).mono ?_; rintro e w10 ⟨rfl, rfl⟩
      go_wp2_with fail
      have HBY := Lib.hid (below_next HBX.out hb9)
      refine (works_any _ (HW.out.below HBY.out)).mono ?_; rintro e w11 ⟨rfl, hb11⟩
      go_wp2_with fail
      go_ret
      exact ⟨rfl, below_next HBY.out hb11⟩
end Go.Proofs.YtdbkchngpbahaaaDoor
