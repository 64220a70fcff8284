/- The walks over both Spells, at tokens made by hand. By an AI agent. -/
import Derived.Test.YtdbkchngpbahaaaDoorNamesB
namespace Go.Proofs.YtdbkchngpbahaaaDoor
open Go.RowKit

/-- A token made by hand: its place is any int. -/
abbrev GTok := Tok × Int
def gV (g : GTok) : List Value := [.int .u8 g.1.kind, .string ⟨g.1.text.toArray⟩, .int .i64 g.1.n, .int .i64 g.2]
def gCells (l : List GTok) : List Value := l.flatMap gV
theorem gCells_len (l : List GTok) : (gCells l).length = l.length * 4 := by
  induction l with
  | nil => rfl
  | cons t l ih => simp only [gCells, List.flatMap_cons, List.length_append] at ih ⊢; rw [ih]; simp [gV]; omega
theorem gCells_snoc (l : List GTok) (t : GTok) : gCells (l ++ [t]) = gCells l ++ gV t := by simp [gCells]
theorem gCells_at (l : List GTok) (i : Nat) (h : i < l.length) : (gCells l)[i * 4]? = some (.int .u8 l[i].1.kind) ∧ (gCells l)[i * 4 + 1]? = some (.string ⟨l[i].1.text.toArray⟩) ∧ (gCells l)[i * 4 + 2]? = some (.int .i64 l[i].1.n) ∧ (gCells l)[i * 4 + 3]? = some (.int .i64 l[i].2) := by
  induction l generalizing i with
  | nil => simp at h
  | cons t l ih =>
    cases i with
    | zero => exact ⟨rfl, rfl, rfl, rfl⟩
    | succ i =>
      have h' : i < l.length := by simpa using h
      obtain ⟨a, b, c, d⟩ := ih i h'
      have e : gCells (t :: l) = gV t ++ gCells l := by simp [gCells]
      have hs (k : Nat) : (gCells (t :: l))[(i + 1) * 4 + k]? = (gCells l)[i * 4 + k]? := by
        rw [e, List.getElem?_append_right (by simp [gV]; omega)]
        congr 1
        simp [gV]; omega
      have h0 := hs 0
      simp only [Nat.add_zero] at h0
      refine ⟨h0.trans a, (hs 1).trans b, (hs 2).trans c, (hs 3).trans d⟩
def gAt (w : World) (b o : Nat) (g : GTok) : Prop := w.cell? ⟨b, o, none⟩ = some (.int .u8 g.1.kind) ∧ w.cell? ⟨b, o + 1, none⟩ = some (.string ⟨g.1.text.toArray⟩) ∧ w.cell? ⟨b, o + 2, none⟩ = some (.int .i64 g.1.n) ∧ w.cell? ⟨b, o + 3, none⟩ = some (.int .i64 g.2)
theorem gAt.below {w w' : World} {b o : Nat} {t : GTok} (h : gAt w b o t) (hb : Below w.heap.size w w') : gAt w' b o t :=
  ⟨(hb.cell (p := ⟨b, _, none⟩) (cell_lt' h.1)).trans h.1, (hb.cell (p := ⟨b, _, none⟩) (cell_lt' h.1)).trans h.2.1, (hb.cell (p := ⟨b, _, none⟩) (cell_lt' h.1)).trans h.2.2.1, (hb.cell (p := ⟨b, _, none⟩) (cell_lt' h.1)).trans h.2.2.2⟩
def GTokS (w : World) (a : Option Addr) (ts : List GTok) : Prop := (ts = [] ∧ True) ∨ ∃ b o, a = some ⟨b, o, none⟩ ∧ ∀ i t, ts[i]? = some t → gAt w b (o + i * 4) t
theorem GTokS.below {w w' : World} {a : Option Addr} {ts : List GTok} (h : GTokS w a ts) (hb : Below w.heap.size w w') : GTokS w' a ts := by
  rcases h with h | ⟨b, o, e, h⟩
  · exact Or.inl h
  · exact Or.inr ⟨b, o, e, fun i t hi => (h i t hi).below hb⟩
theorem GTokS.of_own {w : World} {base : Nat} {A : Option Addr} {c : Nat} {e : TypeId} {ts : List GTok} (h : w.ownsRow base e 4 (.slice A ts.length c) ts.length (gCells ts)) : GTokS w A ts := by
  by_cases h0 : ts = []
  · exact Or.inl ⟨h0, trivial⟩
  · have hpos : 0 < ts.length := List.length_pos_iff.2 h0
    obtain ⟨g, cap, hv, _, hlt⟩ := h.form hpos
    injection hv with hA hn hc
    subst hA hc
    refine Or.inr ⟨g, 0, rfl, fun i t ht => ?_⟩
    obtain ⟨hi, rfl⟩ := List.getElem?_eq_some_iff.1 ht
    obtain ⟨h0, h1, h2, h3⟩ := gCells_at ts i hi
    rw [Nat.zero_add]
    exact ⟨(h.cellAt _ (by omega)).trans h0, (h.cellAt _ (by omega)).trans h1, (h.cellAt _ (by omega)).trans h2, (h.cellAt _ (by omega)).trans h3⟩
def toks (gs : List GTok) : List Tok := gs.map Prod.fst
theorem toks_at {gs : List GTok} {i : Nat} {g : GTok} (h : gs[i]? = some g) : (toks gs)[i]? = some g.1 := by rw [toks, List.getElem?_map, h]; rfl
theorem toks_len (gs : List GTok) : (toks gs).length = gs.length := List.length_map ..

set_option maxRecDepth 100000 in
set_option maxHeartbeats 8000000 in
theorem gspell_go (b o c : Nat) (gs : List GTok) (w : World) (hn : gs.length ≤ 1000000) (hlen : (spellL (toks gs)).length ≤ 1000000000)
    (hk : ∀ i t, gs[i]? = some t → gAt w b (o + i * 4) t) :
    Calls Tryd.prog 13 #[.slice (some ⟨b, o, none⟩) gs.length c] w fun e w' => e = .returned (.string ⟨(spellL (toks gs)).toArray⟩) ∧ Below w.heap.size w w' := by
  obtain ⟨i0, hi0, hz0, hz1, hz2⟩ := info_parts info9
  have HK := Lib.hid hk
  have HL := Lib.hid hlen
  clear hk hlen
  obtain ⟨ts, hts⟩ : ∃ ts, ts = toks gs := ⟨_, rfl⟩
  have HG : Hid (∀ (i : Nat) (g : GTok), gs[i]? = some g → ts[i]? = some g.1) := Lib.hid (fun i g h => by rw [hts]; exact toks_at h)
  have hLT : ts.length = gs.length := by rw [hts]; exact toks_len gs
  rw [← hts] at HL ⊢
  obtain ⟨n, hLN⟩ : ∃ n, gs.length = n := ⟨_, rfl⟩
  rw [hLN] at hn hLT ⊢
  have HGN := Lib.hid hLN
  have HLN := Lib.hid hLT
  clear hLN hLT hts
  go_enter Tryd.func13, Tryd.ntmps13
  go_wp2_with fail
  go_loopw [3, 8] (fun v i wr => ∃ j : Nat, j ≤ n ∧ i = .int .i64 j ∧ Below w.heap.size w wr ∧ Hid (wr.ownsRow w.heap.size 9 1 v (texts (ts.take j)).length (strV (texts (ts.take j))))) (fun _ i _ => n - (intOf i).toNat)
  case atStart => exact ⟨0, Nat.zero_le _, rfl, Below.refl _ _, Lib.hid (World.ownsRow_nil _ _ _ _)⟩
  case round =>
    obtain ⟨j, hj, rfl, hb, HOWN⟩ := hrel
    by_cases hlt : j < n
    · have hjl : j < gs.length := by rw [HGN.out]; exact hlt
      obtain ⟨g, hg'⟩ : ∃ g, gs[j]? = some g := ⟨_, List.getElem?_eq_getElem hjl⟩
      have ht := HG.out j g hg'
      obtain ⟨h0, h1, h2, h3⟩ := HK.out j g hg'
      obtain ⟨t, A⟩ := g
      simp only at h0 h1 h2 h3 ht
      have e0 := (hb.cell (p := ⟨b, _, none⟩) (cell_lt' h0)).trans h0
      have e1 := (hb.cell (p := ⟨b, _, none⟩) (cell_lt' h0)).trans h1
      have e2 := (hb.cell (p := ⟨b, _, none⟩) (cell_lt' h0)).trans h2
      have e3 := (hb.cell (p := ⟨b, _, none⟩) (cell_lt' h0)).trans h3
      have hlb := cell_lt' e0
      have hsz := hb.size
      have hle := texts_le ts j
      have HT := Lib.hid ht
      clear h0 h1 h2 h3 ht hjl hg'
      by_cases hk5 : t.kind = 5
      · have hg : good t = false := by simp [good, hk5]
        have HG := Lib.hid (texts_no HT.out hg)
        clear hg
        rw [hk5] at e0
        go_wp2_with fail
        go_roundw
        case rel => exact ⟨j + 1, by omega, by go_num, hb.alloc hb.size _, Lib.hid (by rw [HG.out]; exact HOWN.out.alloc _)⟩
        case measure => simp [intOf]; omega
      · have hk5' : ((t.kind : Int) == 5) = false := by rw [beq_eq_false_iff_ne]; omega
        have hk5n : ¬ (t.kind : Int) = 5 := by omega
        have hk5b : ((t.kind : Int) != 5) = true := by simp; omega
        cases hem : t.text.isEmpty
        · have hg : good t = true := by simp [good, hk5, hem]
          have HG := Lib.hid (texts_yes HT.out hg)
          clear hg hk5
          go_wp2_with (at_builtin; refine wpList_append_own _ rfl _ _ 43 rfl w.heap.size 9 i0 (.string ⟨#[]⟩) 1 16 Tryd.underlying43 hi0 hz0 hz1 hz2 rfl (by decide) _ _ _ rfl ((HOWN.out.alloc _).alloc _) ⟨wr.heap.size + 1, 0, none⟩ 1 1 [.string ⟨t.text.toArray⟩] rfl rfl (World.news_of_block (cs := #[.string ⟨t.text.toArray⟩]) (t := 9) (fr := (0, 0)) (heap_new_at (wr.alloc _) _ (by simp))) (by simp [Value.oneCell']) (by unfold maxLen; omega) (by omega) ?_ ?_)
          · simp; omega
          intro v' w4 hown4 hgrow _
          go_wp2_with fail
          go_roundw
          case rel => exact ⟨j + 1, by omega, by go_num, ((hb.alloc hsz _).alloc (by simp; omega) _).grown hgrow (by simp; omega) (fun q e => (HOWN.out.lt q e).1), Lib.hid (by
            rw [HG.out, List.length_append, strV, List.map_append]; exact hown4)⟩
          case measure => simp [intOf]; omega
        · have hg : good t = false := by simp [good, hem]
          have HG := Lib.hid (texts_no HT.out hg)
          clear hg hk5
          go_wp2_with fail
          go_roundw
          case rel => exact ⟨j + 1, by omega, by go_num, hb.alloc hb.size _, Lib.hid (by rw [HG.out]; exact HOWN.out.alloc _)⟩
          case measure => simp [intOf]; omega
    · have hjn : ts.take j = ts := List.take_of_length_le (by rw [HLN.out]; omega)
      rw [hjn] at HOWN
      clear hjn
      have hle := texts_le ts n
      rw [List.take_of_length_le (by rw [HLN.out]; exact Nat.le_refl _)] at hle
      go_wp2_with fail
      refine (join_v _ _ (texts ts) wr HOWN.out (by omega) HL.out).mono ?_; rintro e w5 ⟨rfl, hb5⟩
      go_wp2_with fail
      go_ret
      exact ⟨rfl, hb.trans (hb5.mono hb.size)⟩

theorem gspell_any (a : Option Addr) (c : Nat) (gs : List GTok) (w : World) (hn : gs.length ≤ 1000000) (hlen : (spellL (toks gs)).length ≤ 1000000000) (h : GTokS w a gs) :
    Calls Tryd.prog 13 #[.slice a gs.length c] w fun e w' => e = .returned (.string ⟨(spellL (toks gs)).toArray⟩) ∧ Below w.heap.size w w' := by
  rcases h with ⟨rfl, _⟩ | ⟨b, o, rfl, h⟩
  · exact spell_zero a c w
  · exact gspell_go b o c gs w hn hlen h

theorem good_kind {t : Tok} (h : t.kind = 5) : good t = false := by simp [good, h]
theorem spell_step {ts : List Tok} (hT : ∀ t ∈ ts, t.text.length ≤ 100) {j : Nat} {t : Tok} (h : ts[j]? = some t) (hb : (spellL (ts.take j)).length ≤ 101 * j) : (spellL (ts.take (j + 1))).length ≤ 101 * (j + 1) := by
  have ht := hT t (List.mem_of_getElem? h)
  cases hg : good t
  · rw [spell_no h hg]; omega
  · rw [spell_yes h hg]
    split
    · omega
    · rw [List.length_append, List.length_cons]; omega

set_option maxRecDepth 100000 in
set_option maxHeartbeats 8000000 in
theorem rspell_go (b o c : Nat) (gs : List GTok) (w : World) (hn : gs.length ≤ 30) (hT : ∀ t ∈ toks gs, t.text.length ≤ 100)
    (hk : ∀ i t, gs[i]? = some t → gAt w b (o + i * 4) t) :
    Calls Tryd.prog 16 #[.slice (some ⟨b, o, none⟩) gs.length c] w fun e w' => e = .returned (.string ⟨(spellL (toks gs)).toArray⟩) ∧ w = w' := by
  have HK := Lib.hid hk
  have HTT := Lib.hid hT
  clear hk hT
  obtain ⟨ts, hts⟩ : ∃ ts, ts = toks gs := ⟨_, rfl⟩
  have HG : Hid (∀ (i : Nat) (g : GTok), gs[i]? = some g → ts[i]? = some g.1) := Lib.hid (fun i g h => by rw [hts]; exact toks_at h)
  have hLT : ts.length = gs.length := by rw [hts]; exact toks_len gs
  rw [← hts] at HTT ⊢
  obtain ⟨n, hLN⟩ : ∃ n, gs.length = n := ⟨_, rfl⟩
  rw [hLN] at hn hLT ⊢
  have HGN := Lib.hid hLN
  have HLN := Lib.hid hLT
  clear hLN hLT hts
  go_enter Tryd.func16, Tryd.ntmps16
  go_wp2_with fail
  go_loop [3, 4] (fun v i => ∃ (j : Nat) (sp : List UInt8), j ≤ n ∧ i = .int .i64 j ∧ v = .string ⟨sp.toArray⟩ ∧ sp.length ≤ 101 * j ∧ Hid (sp = spellL (ts.take j))) (fun _ i => n - (intOf i).toNat)
  case atStart => exact ⟨0, [], Nat.zero_le _, rfl, rfl, Nat.zero_le _, Lib.hid rfl⟩
  case round =>
    obtain ⟨j, sp, hj, rfl, rfl, hsl, HSP⟩ := hrel
    by_cases hlt : j < n
    · have hjl : j < gs.length := by rw [HGN.out]; exact hlt
      obtain ⟨g, hg'⟩ : ∃ g, gs[j]? = some g := ⟨_, List.getElem?_eq_getElem hjl⟩
      have ht := HG.out j g hg'
      obtain ⟨e0, e1, e2, e3⟩ := HK.out j g hg'
      obtain ⟨t, A⟩ := g
      simp only at e0 e1 e2 e3 ht
      have HT := Lib.hid ht
      have HST := Lib.hid (spell_step HTT.out ht (by rw [← HSP.out]; exact hsl))
      have htl := HTT.out t (List.mem_of_getElem? ht)
      clear ht hjl hg'
      by_cases hk5 : t.kind = 5
      · have hg := good_kind hk5
        have HG' := Lib.hid (spell_no HT.out hg)
        clear hg
        rw [hk5] at e0
        go_wp2_with fail
        go_round
        case rel => exact ⟨j + 1, sp, by omega, by go_num, rfl, by omega, Lib.hid (by rw [HG'.out]; exact HSP.out)⟩
        case measure => simp [intOf]; omega
      · have hk5' : ((t.kind : Int) == 5) = false := by rw [beq_eq_false_iff_ne]; omega
        have hk5n : ¬ (t.kind : Int) = 5 := by omega
        cases hem : t.text.isEmpty
        · have hg : good t = true := by simp [good, hk5, hem]
          have HG' := Lib.hid (spell_yes HT.out hg)
          clear hg hk5
          cases hes : sp.isEmpty
          · have HNE : Hid (sp ≠ []) := Lib.hid (fun e => by rw [e] at hes; simp at hes)
            go_wp2_with fail
            go_round
            case rel =>
              have hne := HNE.out
              rw [HSP.out] at hne
              have e := HG'.out
              rw [if_neg hne] at e
              refine ⟨j + 1, spellL (ts.take (j + 1)), by omega, by go_num, ?_, by have := HST.out; omega, Lib.hid rfl⟩
              rw [e, HSP.out]
              first | rfl | (congr 1; done) | (congr 1; ext1; simp; done) | (congr 1; simp; done) | (simp; done)
            case measure => simp [intOf]; omega
          · obtain rfl : sp = [] := by simpa using hes
            go_wp2_with fail
            go_round
            case rel =>
              have e := HG'.out
              rw [if_pos HSP.out.symm] at e
              refine ⟨j + 1, spellL (ts.take (j + 1)), by omega, by go_num, ?_, by have := HST.out; omega, Lib.hid rfl⟩
              rw [e]
              first | rfl | (congr 1; done) | (congr 1; ext1; simp; done) | (congr 1; simp; done) | (simp; done)
            case measure => simp [intOf]; omega
        · have hg : good t = false := by simp [good, hem]
          have HG' := Lib.hid (spell_no HT.out hg)
          clear hg hk5
          go_wp2_with fail
          go_round
          case rel => exact ⟨j + 1, sp, by omega, by go_num, rfl, by omega, Lib.hid (by rw [HG'.out]; exact HSP.out)⟩
          case measure => simp [intOf]; omega
    · have hjn : ts.take j = ts := List.take_of_length_le (by rw [HLN.out]; omega)
      rw [hjn] at HSP
      clear hjn
      go_wp2_with fail
      go_ret
      exact ⟨by rw [HSP.out]; rfl, rfl⟩
end Go.Proofs.YtdbkchngpbahaaaDoor
