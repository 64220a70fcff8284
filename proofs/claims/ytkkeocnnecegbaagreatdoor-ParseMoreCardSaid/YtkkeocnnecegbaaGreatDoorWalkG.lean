/- The walks over Spell and works. By an AI agent. -/
import Derived.Test.YtkkeocnnecegbaaGreatDoorWalkF
namespace Go.Proofs.YtkkeocnnecegbaaGreatDoor
open Go.RowKit

def cellsAt (w : World) (b o : Nat) (t : Tok) : Prop := w.cell? ⟨b, o, none⟩ = some (.int .u8 t.kind) ∧ w.cell? ⟨b, o + 1, none⟩ = some (.string ⟨t.text.toArray⟩) ∧ w.cell? ⟨b, o + 2, none⟩ = some (.int .i64 t.n) ∧ w.cell? ⟨b, o + 3, none⟩ = some (.int .i64 t.at')
theorem cellsAt.below {w w' : World} {b o : Nat} {t : Tok} (h : cellsAt w b o t) (hb : Below w.heap.size w w') : cellsAt w' b o t :=
  ⟨(hb.cell (p := ⟨b, _, none⟩) (cell_lt' h.1)).trans h.1, (hb.cell (p := ⟨b, _, none⟩) (cell_lt' h.1)).trans h.2.1, (hb.cell (p := ⟨b, _, none⟩) (cell_lt' h.1)).trans h.2.2.1, (hb.cell (p := ⟨b, _, none⟩) (cell_lt' h.1)).trans h.2.2.2⟩
/-- A slice's address reads as tokens. -/
def TokS (w : World) (a : Option Addr) (ts : List Tok) : Prop := (ts = [] ∧ True) ∨ ∃ b o, a = some ⟨b, o, none⟩ ∧ ∀ i t, ts[i]? = some t → cellsAt w b (o + i * 4) t
theorem TokS.below {w w' : World} {a : Option Addr} {ts : List Tok} (h : TokS w a ts) (hb : Below w.heap.size w w') : TokS w' a ts := by
  rcases h with h | ⟨b, o, e, h⟩
  · exact Or.inl h
  · exact Or.inr ⟨b, o, e, fun i t hi => (h i t hi).below hb⟩
theorem own_form {w : World} {base e size n : Nat} {v : Value} {xs : List Value} (h : w.ownsRow base e size v n xs) : ∃ A c, v = .slice A n c := by
  rcases h.2 with ⟨rfl, rfl⟩ | ⟨g, cap, _, rfl, _⟩
  · exact ⟨_, _, rfl⟩
  · exact ⟨_, _, rfl⟩
theorem TokS.of_own {w : World} {base : Nat} {A : Option Addr} {c : Nat} {e : TypeId} {ts : List Tok} (h : w.ownsRow base e 4 (.slice A ts.length c) ts.length (tokCells ts)) : TokS w A ts := by
  by_cases h0 : ts = []
  · exact Or.inl ⟨h0, trivial⟩
  · have hpos : 0 < ts.length := by cases ts with | nil => exact absurd rfl h0 | cons _ _ => simp
    obtain ⟨g, cap, hv, _, hlt⟩ := h.form hpos
    injection hv with hA hn hc
    subst hA hc
    refine Or.inr ⟨g, 0, rfl, fun i t ht => ?_⟩
    obtain ⟨hi, rfl⟩ := List.getElem?_eq_some_iff.1 ht
    obtain ⟨h0, h1, h2, h3⟩ := tokCells_at ts i hi
    rw [Nat.zero_add]
    exact ⟨(h.cellAt _ (by omega)).trans h0, (h.cellAt _ (by omega)).trans h1, (h.cellAt _ (by omega)).trans h2, (h.cellAt _ (by omega)).trans h3⟩

def good (t : Tok) : Bool := t.kind != 5 && !t.text.isEmpty
def texts (ts : List Tok) : List (List UInt8) := (ts.filter good).map (·.text)
def spellL (ts : List Tok) : List UInt8 := Lib.join (texts ts) [32]
def strV (l : List (List UInt8)) : List Value := l.map fun x => .string ⟨x.toArray⟩
theorem take_snoc {ts : List Tok} {j : Nat} {t : Tok} (h : ts[j]? = some t) : ts.take (j + 1) = ts.take j ++ [t] := by
  rw [List.take_add_one, h]; rfl
theorem texts_yes {ts : List Tok} {j : Nat} {t : Tok} (h : ts[j]? = some t) (hg : good t = true) : texts (ts.take (j + 1)) = texts (ts.take j) ++ [t.text] := by
  rw [texts, take_snoc h, List.filter_append, List.map_append, List.filter_cons, if_pos hg]; rfl
theorem texts_no {ts : List Tok} {j : Nat} {t : Tok} (h : ts[j]? = some t) (hg : good t = false) : texts (ts.take (j + 1)) = texts (ts.take j) := by
  rw [texts, take_snoc h, List.filter_append, List.map_append, List.filter_cons, if_neg (by simp [hg])]; simp [texts]
theorem texts_le (ts : List Tok) (j : Nat) : (texts (ts.take j)).length ≤ j := by
  unfold texts; rw [List.length_map]; have := List.length_filter_le good (ts.take j); rw [List.length_take] at this; omega
theorem heap_new_at (W : World) (o : Obj) {B : Nat} (h : W.heap.size = B) : (W.alloc o).heap[B]? = some o := h ▸ heap_alloc_new W o
theorem info9 : (Tryz.prog.info? 9).map (fun i => (i.zero, i.size, i.bytes)) = some (some (.string ⟨#[]⟩), 1, 16) := by kernel_rfl

theorem own_cap {w : World} {base e size n : Nat} {g cap : Nat} {xs : List Value} (h : w.ownsRow base e size (.slice (some ⟨g, 0, none⟩) n cap) n xs) : n ≤ cap := by
  rcases h.2 with ⟨h', _⟩ | ⟨g', cap', cur, h', _, _, hnc, _⟩
  · simp at h'
  · simp at h'
    obtain ⟨_, rfl⟩ := h'
    exact hnc
theorem strV_map (l : List (List UInt8)) : strV l = (l.map fun x => (⟨x.toArray⟩ : ByteArray)).map Value.string := by simp [strV]
theorem join_v (base : Nat) (v : Value) (L : List (List UInt8)) (w : World) (h : w.ownsRow base 9 1 v L.length (strV L)) (hn : L.length ≤ 1000000) (hlen : (Lib.join L [32]).length ≤ 1000000000) :
    Calls Tryz.prog 63 #[v, .string ⟨#[32]⟩] w fun e w' => e = .returned (.string ⟨(Lib.join L [32]).toArray⟩) ∧ Below w.heap.size w w' := by
  cases L with
  | nil =>
    obtain ⟨A, c, rfl⟩ := own_form h
    exact (Tryz.strings_Join_none A c ⟨#[32]⟩ w).mono (by rintro e w' ⟨rfl, rfl⟩; exact ⟨rfl, Below.refl _ _⟩)
  | cons x r =>
    obtain ⟨g, cap, rfl, _, hlt⟩ := h.form (by simp)
    have hm : ((x :: r).map fun x => (⟨x.toArray⟩ : ByteArray)).length = (x :: r).length := List.length_map ..
    have hb : ((x :: r).map fun x => (⟨x.toArray⟩ : ByteArray)).map (·.data.toList) = x :: r := by rw [List.map_map]; exact List.map_id _
    have hJ := Tryz.strings_Join g 0 cap ((x :: r).map fun x => (⟨x.toArray⟩ : ByteArray)) ⟨#[32]⟩ w (fun i y hy => by
        have h1 := (List.getElem?_eq_some_iff.1 hy).1
        rw [hm] at h1
        have h2 := (h.cellAt i (by omega)).trans (show (strV (x :: r))[i]? = some (.string y) by rw [strV_map, List.getElem?_map, hy]; rfl)
        rw [Nat.zero_add]; exact h2) hlt (by rw [hm]; omega) (by rw [hm]; exact own_cap h) (by rw [hb]; show (Lib.join (x :: r) [32]).length ≤ _; omega)
    rw [hm, hb] at hJ
    exact hJ

set_option maxRecDepth 100000 in
set_option maxHeartbeats 8000000 in
theorem spell_go (b o c : Nat) (ts : List Tok) (w : World) (hn : ts.length ≤ 1000000) (hlen : (spellL ts).length ≤ 1000000000)
    (hk : ∀ i t, ts[i]? = some t → cellsAt w b (o + i * 4) t) :
    Calls Tryz.prog 26 #[.slice (some ⟨b, o, none⟩) ts.length c] w fun e w' => e = .returned (.string ⟨(spellL ts).toArray⟩) ∧ Below w.heap.size w w' := by
  obtain ⟨i0, hi0, hz0, hz1, hz2⟩ := info_parts info9
  have HK := Lib.hid hk
  have HL := Lib.hid hlen
  clear hk hlen
  obtain ⟨n, hLN⟩ : ∃ n, ts.length = n := ⟨_, rfl⟩
  rw [hLN] at hn ⊢
  have HLN := Lib.hid hLN
  clear hLN
  go_enter Tryz.func26, Tryz.ntmps26
  go_wp2_with fail
  go_loopw [3, 8] (fun v i wr => ∃ j : Nat, j ≤ n ∧ i = .int .i64 j ∧ Below w.heap.size w wr ∧ Hid (wr.ownsRow w.heap.size 9 1 v (texts (ts.take j)).length (strV (texts (ts.take j))))) (fun _ i _ => n - (intOf i).toNat)
  case atStart => exact ⟨0, Nat.zero_le _, rfl, Below.refl _ _, Lib.hid (World.ownsRow_nil _ _ _ _)⟩
  case round =>
    obtain ⟨j, hj, rfl, hb, HOWN⟩ := hrel
    by_cases hlt : j < n
    · have hjl : j < ts.length := by rw [HLN.out]; exact hlt
      obtain ⟨t, ht⟩ : ∃ t, ts[j]? = some t := ⟨_, List.getElem?_eq_getElem hjl⟩
      obtain ⟨h0, h1, h2, h3⟩ := HK.out j t ht
      have e0 := (hb.cell (p := ⟨b, _, none⟩) (cell_lt' h0)).trans h0
      have e1 := (hb.cell (p := ⟨b, _, none⟩) (cell_lt' h0)).trans h1
      have e2 := (hb.cell (p := ⟨b, _, none⟩) (cell_lt' h0)).trans h2
      have e3 := (hb.cell (p := ⟨b, _, none⟩) (cell_lt' h0)).trans h3
      have hlb := cell_lt' e0
      have hsz := hb.size
      have hle := texts_le ts j
      have HT := Lib.hid ht
      clear h0 h1 h2 h3 ht hjl
      by_cases hk5 : t.kind = 5
      · have hg : good t = false := by simp [good, hk5]
        have HG := Lib.hid (texts_no HT.out hg)
        clear hg
        rw [hk5] at e0
        go_wp2_with fail
        go_roundw
        case rel => exact ⟨j + 1, by omega, by go_num, hb.alloc hb.size _, Lib.hid (by rw [HG.out]; exact HOWN.out.alloc _)⟩
        case measure => simp [intOf]; omega
      · have hk5' : ((t.kind : Int) == 5) = false := by rw [beq_eq_false_iff_ne]; omega
        have hk5n : ¬ (t.kind : Int) = 5 := by omega
        have hk5b : ((t.kind : Int) != 5) = true := by simp; omega
        cases hem : t.text.isEmpty
        · have hg : good t = true := by simp [good, hk5, hem]
          have HG := Lib.hid (texts_yes HT.out hg)
          clear hg hk5
          go_wp2_with (at_builtin; refine wpList_append_own _ rfl _ _ 52 rfl w.heap.size 9 i0 (.string ⟨#[]⟩) 1 16 Tryz.underlying52 hi0 hz0 hz1 hz2 rfl (by decide) _ _ _ rfl ((HOWN.out.alloc _).alloc _) ⟨wr.heap.size + 1, 0, none⟩ 1 1 [.string ⟨t.text.toArray⟩] rfl rfl (World.news_of_block (cs := #[.string ⟨t.text.toArray⟩]) (t := 9) (fr := (0, 0)) (heap_new_at (wr.alloc _) _ (by simp))) (by simp [Value.oneCell']) (by unfold maxLen; omega) (by omega) ?_ ?_)
          · simp; omega
          intro v' w4 hown4 hgrow _
          go_wp2_with fail
          go_roundw
          case rel => exact ⟨j + 1, by omega, by go_num, ((hb.alloc hsz _).alloc (by simp; omega) _).grown hgrow (by simp; omega) (fun q e => (HOWN.out.lt q e).1), Lib.hid (by
            rw [HG.out, List.length_append, strV, List.map_append]; exact hown4)⟩
          case measure => simp [intOf]; omega
        · have hg : good t = false := by simp [good, hem]
          have HG := Lib.hid (texts_no HT.out hg)
          clear hg hk5
          go_wp2_with fail
          go_roundw
          case rel => exact ⟨j + 1, by omega, by go_num, hb.alloc hb.size _, Lib.hid (by rw [HG.out]; exact HOWN.out.alloc _)⟩
          case measure => simp [intOf]; omega
    · have hjn : ts.take j = ts := List.take_of_length_le (by rw [HLN.out]; omega)
      rw [hjn] at HOWN
      clear hjn
      have hle := texts_le ts n
      rw [List.take_of_length_le (by rw [HLN.out]; exact Nat.le_refl _)] at hle
      go_wp2_with fail
      refine (join_v _ _ (texts ts) wr HOWN.out (by omega) HL.out).mono ?_; rintro e w5 ⟨rfl, hb5⟩
      go_wp2_with fail
      go_ret
      exact ⟨rfl, hb.trans (hb5.mono hb.size)⟩

set_option maxHeartbeats 400000 in
theorem spell_zero (a : Option Addr) (c : Nat) (w : World) :
    Calls Tryz.prog 26 #[.slice a 0 c] w fun e w' => e = .returned (.string ⟨(spellL []).toArray⟩) ∧ Below w.heap.size w w' := by
  go_enter Tryz.func26, Tryz.ntmps26
  go_wp2_with fail
  refine wp_loop_rounds 1 ?_
  rw [rounds_succ]
  go_wp2_with fail
  refine (Tryz.strings_Join_none none 0 ⟨#[32]⟩ w).mono ?_; rintro e w' ⟨rfl, rfl⟩
  go_wp2_with fail
  go_ret
  exact ⟨rfl, Below.refl _ _⟩

theorem spell_any (a : Option Addr) (c : Nat) (ts : List Tok) (w : World) (hn : ts.length ≤ 1000000) (hlen : (spellL ts).length ≤ 1000000000) (h : TokS w a ts) :
    Calls Tryz.prog 26 #[.slice a ts.length c] w fun e w' => e = .returned (.string ⟨(spellL ts).toArray⟩) ∧ Below w.heap.size w w' := by
  rcases h with ⟨rfl, _⟩ | ⟨b, o, rfl, h⟩
  · exact spell_zero a c w
  · exact spell_go b o c ts w hn hlen h

theorem lex_ok (a : Option Addr) (c : Nat) (l : List UInt8) (ts : List Tok) (w : World) (hn : l.length ≤ 65536) (hl : BytS w a l) (hw : EW w) (h : lexS l = .ok ts) :
    Calls Tryz.prog 25 #[.slice a l.length c] w fun e w' => ∃ A c', e = .returned (.tuple #[.slice A ts.length c', .int .i64 0, .int .i64 0]) ∧ TokS w' A ts ∧ Below w.heap.size w w' :=
  (lex_any a c l w hn hl hw).mono (by
    rintro e w' ⟨ho, hb⟩
    unfold LexOut at ho
    rw [h] at ho
    obtain ⟨v, rfl, hown⟩ := ho
    obtain ⟨A, c', rfl⟩ := own_form hown
    exact ⟨A, c', rfl, TokS.of_own hown, hb⟩)
theorem lex_bad (a : Option Addr) (c : Nat) (l : List UInt8) (p : Nat) (er : Int) (w : World) (hn : l.length ≤ 65536) (hl : BytS w a l) (hw : EW w) (h : lexS l = .error (p, er)) :
    Calls Tryz.prog 25 #[.slice a l.length c] w fun e w' => e = .returned (.tuple #[.slice none 0 0, .int .i64 p, .int .i64 er]) ∧ Below w.heap.size w w' :=
  (lex_any a c l w hn hl hw).mono (by
    rintro e w' ⟨ho, hb⟩
    unfold LexOut at ho
    rw [h] at ho
    exact ⟨ho, hb⟩)

theorem byts_new (w : World) (cs : Array Value) (l : List UInt8) (fr : Nat × Nat) (h : cs.toList = l.map (fun c => Value.int .u8 c.toNat)) : BytS (w.alloc (.cells cs 5 fr)) (some ⟨w.heap.size, 0, none⟩) l := by
  refine Or.inr ⟨w.heap.size, 0, rfl, fun i hi => ?_⟩
  rw [Nat.zero_add, World.cell?_alloc_mark, ← Array.getElem?_toList, h, List.getElem?_map, List.getElem?_eq_getElem hi]
  rfl

def exT : List Tok := [⟨1, [120], 0, 0⟩, ⟨4, [60, 60], 0, 1⟩, ⟨4, [61], 0, 3⟩, ⟨3, [55], 7, 4⟩, ⟨4, [59], 0, 5⟩, ⟨5, [], 0, 6⟩]
theorem ex_lex : lexS [120, 60, 60, 61, 55, 59] = .ok exT := by kernel_rfl
theorem ex_spell : (spellL exT).toArray = #[120, 32, 60, 60, 32, 61, 32, 55, 32, 59] := by kernel_rfl
end Go.Proofs.YtkkeocnnecegbaaGreatDoor
