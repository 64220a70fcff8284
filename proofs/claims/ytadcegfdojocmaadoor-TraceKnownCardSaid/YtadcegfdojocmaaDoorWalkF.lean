/- The walk over Text of the package trace: the trace's text, or none. By an AI agent. -/
import Derived.Test.YtadcegfdojocmaaDoorWalkE
import Derived.Test.YtadcegfdojocmaaDoorShelf
import Derived.Deep.RegionHeld3
import Derived.Deep.AppendLies
import Derived.Lib.LaidTab
import Derived.Lib.AppendIntMem
import Derived.Lib.ItoaLen
import Derived.RangeFuncBox
namespace Go.Proofs.YtadcegfdojocmaaDoor
open Go.RowKit

/-- A kind's letter, as a text. -/
def letterB (i : Nat) : List UInt8 := if i = 1 then [82] else if i = 2 then [80] else if i = 3 then [69] else if i = 4 then [83] else []
/-- What the package-level variables hold that the walks read. -/
structure Env (w : World) : Prop where
  tab : Lib.TabIs Tryd.prog w "internal/strconv.uint64pow10" .u64 Lib.pow10Tab
  letter : ∀ i, i < 5 → w.cell? ⟨0, i, none⟩ = some (.string ⟨(letterB i).toArray⟩)

theorem gPow : Tryd.prog.globalNamed "internal/strconv.uint64pow10" = some 1 := by kernel_rfl
theorem Env.below {w w' : World} (h : Env w) (hb : Below w.heap.size w w') : Env w' := by
  refine ⟨?_, fun i hi => cell_later hb (h.letter i hi)⟩
  have := h.tab
  unfold Lib.TabIs at *
  have hlt : 1 < w.heap.size := cell_lt (h.tab.cell gPow 0 (by decide))
  rw [← this]
  unfold World.var?
  rw [gPow]
  simp [hb.block 1 hlt]

/-- An event's text. -/
def evB (k m : Int) : List UInt8 := letterB k.toNat ++ Lib.itoa m
def four : Nat → Int := fun i => if i = 0 then 1 else if i = 1 then 2 else if i = 2 then 3 else 4
theorem is_four_v (b c : Nat) (k m : Int) (v : Bool) (w : World) (h0 : w.cell? ⟨b, 0, none⟩ = some (.int .u8 1)) (h1 : w.cell? ⟨b, 1, none⟩ = some (.int .u8 2))
    (h2 : w.cell? ⟨b, 2, none⟩ = some (.int .u8 3)) (h3 : w.cell? ⟨b, 3, none⟩ = some (.int .u8 4)) (hv : decide (1 ≤ k ∧ k ≤ 4) = v) :
    Calls Tryd.prog 31 #[.agg #[.int .u8 k, .int .i64 m], .slice (some ⟨b, 0, none⟩) 4 c] w fun e w' => e = .returned (.bool v) ∧ Below w.heap.size w w' := by
  have hh : has 4 four k = v := by
    rw [← hv]; unfold has; rw [Bool.eq_iff_iff]; simp only [decide_eq_true_eq]
    constructor
    · rintro ⟨i, hi, h⟩
      match i, hi with
      | 0, _ => simp [four] at h; omega
      | 1, _ => simp [four] at h; omega
      | 2, _ => simp [four] at h; omega
      | 3, _ => simp [four] at h; omega
    · rintro ⟨ha, hb⟩
      exact ⟨(k - 1).toNat, by omega, by
        have : k = 1 ∨ k = 2 ∨ k = 3 ∨ k = 4 := by omega
        rcases this with rfl | rfl | rfl | rfl <;> rfl⟩
  rw [← hh]
  refine is_any b 0 4 c four k m w (by omega) (fun i hi => ?_)
  match i, hi with
  | 0, _ => exact h0
  | 1, _ => exact h1
  | 2, _ => exact h2
  | 3, _ => exact h3

theorem info9 : (Tryd.prog.info? 9).map (fun i => (i.zero, i.size, i.bytes)) = some (some (.string ⟨#[]⟩), 1, 16) := by kernel_rfl
theorem fmt_any (n : Int) (h0 : -9223372036854775808 ≤ n) (h1 : n ≤ 9223372036854775807) (w : World) (henv : Env w) :
    Calls Tryd.prog 34 #[.int .i64 n, .int .i64 10] w fun e w' => e = .returned (.string ⟨(Lib.itoa n).toArray⟩) ∧ Below w.heap.size w w' :=
  (Tryd.strconv_FormatInt_10 n h0 h1 w henv.tab).mono fun e w' ⟨he, k, os, hw⟩ => ⟨he, by rw [hw]; exact Lib.below_grow _ w (Nat.le_refl _) k os⟩

theorem own_cap {B : Nat} {e : TypeId} {k : Nat} {g n cap : Nat} {xs : List Value} {w : World} (h : w.ownsRow B e k (.slice (some ⟨g, 0, none⟩) n cap) n xs) : n ≤ cap := by
  rcases h.2 with ⟨h', _⟩ | ⟨g', cap', cur, h', _, _, hnc, _⟩
  · simp at h'
  · simp at h'
    obtain ⟨_, rfl⟩ := h'
    exact hnc

/-- The texts of the first j events, as values. -/
def evV (k m : Nat → Int) (j : Nat) : List Value := (List.range j).map fun i => .string ⟨(evB (k i) (m i)).toArray⟩
theorem letterB_short (κ : Nat) : (letterB κ).length ≤ 1 := by unfold letterB; split <;> (try split) <;> (try split) <;> (try split) <;> simp
theorem itoa_short (κ : Nat) (m : Int) (h0 : -9223372036854775808 ≤ m) (h1 : m ≤ 9223372036854775807) : ¬ 9223372036854775807 < (letterB κ).length + (Lib.itoa m).length := by
  have := Lib.itoa_length_le m h0 h1; have := letterB_short κ; omega
theorem evV_succ (k m : Nat → Int) (j κ : Nat) (h : k j = κ) : evV k m j ++ [.string (ByteArray.mk (letterB κ).toArray ++ ByteArray.mk (Lib.itoa (m j)).toArray)] = evV k m (j + 1) := by
  unfold evV
  rw [List.range_succ, List.map_append]
  simp [evB, h, ByteArray.mk_append_mk]

theorem own_below {B : Nat} {e : TypeId} {k : Nat} {v : Value} {n : Nat} {xs : List Value} {w w' : World} (h : w.ownsRow B e k v n xs) (hb : Below w.heap.size w w') : w'.ownsRow B e k v n xs :=
  h.kept (row := none) ⟨hb.os, hb.tape, hb.output, hb.size, fun j hj _ => hb.block j hj⟩ (by cases hv : v.ownBlock <;> simp)


/-- The texts of the first j events. -/
def evBs (k m : Nat → Int) (j : Nat) : List ByteArray := (List.range j).map fun i => ⟨(evB (k i) (m i)).toArray⟩
/-- The trace's text. -/
def textB (n : Nat) (k m : Nat → Int) : List UInt8 := Lib.join ((List.range n).map fun i => evB (k i) (m i)) [32]
theorem evB_short (k m : Int) (h0 : -9223372036854775808 ≤ m) (h1 : m ≤ 9223372036854775807) : (evB k m).length ≤ 22 := by
  have := Lib.itoa_length_le m h0 h1; have := letterB_short k.toNat; simp [evB]; omega
theorem evV_eq (k m : Nat → Int) (j : Nat) : evV k m j = (evBs k m j).map Value.string := by simp [evV, evBs]
theorem evBs_len (k m : Nat → Int) (j : Nat) : (evBs k m j).length = j := by simp [evBs]
theorem evBs_bytes (k m : Nat → Int) (j : Nat) : (evBs k m j).map (·.data.toList) = (List.range j).map fun i => evB (k i) (m i) := by simp [evBs]
theorem lens_le (l : List (List UInt8)) (h : ∀ x ∈ l, x.length ≤ 22) : Lib.lens l ≤ 22 * l.length := by
  induction l with
  | nil => simp [Lib.lens]
  | cons y r ih =>
    have h1 := h y (by simp)
    have h2 := ih (fun x hx => h x (by simp [hx]))
    simp [Lib.lens] at *
    omega
theorem textB_le (n : Nat) (k m : Nat → Int) (h : ∀ i, i < n → -9223372036854775808 ≤ m i ∧ m i ≤ 9223372036854775807) : (textB n k m).length ≤ 23 * n := by
  unfold textB
  cases hl : (List.range n).map fun i => evB (k i) (m i) with
  | nil => simp [Lib.join_nil]
  | cons x r =>
    have hlen : (x :: r).length = n := by rw [← hl]; simp
    have hle := lens_le (x :: r) (fun y hy => by
      rw [← hl] at hy
      obtain ⟨i, hi, rfl⟩ := List.mem_map.1 hy
      exact evB_short _ _ (h i (List.mem_range.1 hi)).1 (h i (List.mem_range.1 hi)).2)
    rw [Lib.join_length]
    simp at hlen hle ⊢
    omega

set_option maxRecDepth 100000 in
set_option maxHeartbeats 2000000 in
theorem text_go (b o n' n c : Nat) (hnn : n = n' + 1) (k m : Nat → Int) (w : World) (hn : n ≤ 1000000) (henv : Env w)
    (hk : ∀ i, i < n → w.cell? ⟨b, o + i * 2, none⟩ = some (.int .u8 (k i))) (hm : ∀ i, i < n → w.cell? ⟨b, o + i * 2 + 1, none⟩ = some (.int .i64 (m i)))
    (hr : ∀ i, i < n → 1 ≤ k i ∧ k i ≤ 4) (hr2 : ∀ i, i < n → -9223372036854775808 ≤ m i ∧ m i ≤ 9223372036854775807) :
    Calls Tryd.prog 24 #[.slice (some ⟨b, o, none⟩) n c] w fun e w' => e = .returned (.tuple #[.string ⟨(textB n k m).toArray⟩, .int .i64 0]) ∧ Below w.heap.size w w' := by
  have HNN := Lib.hid hnn; clear hnn
  obtain ⟨i0, hi0, hz0, hz1, hz2⟩ := info_parts info9
  have HK := Lib.hid hk; have HM := Lib.hid hm; have HR := Lib.hid hr; have HR2 := Lib.hid hr2; have HENV := Lib.hid henv
  clear hk hm hr hr2 henv
  go_enter Tryd.func24, Tryd.ntmps24
  go_wp2_with fail
  go_loopw [4, 9] (fun v i wr => ∃ j : Nat, j ≤ n ∧ i = .int .i64 j ∧ Below w.heap.size w wr ∧ wr.ownsRow w.heap.size 9 1 v j (evV k m j)) (fun _ i _ => n - (intOf i).toNat)
  case atStart => exact ⟨0, Nat.zero_le _, rfl, Below.refl _ _, World.ownsRow_nil _ _ _ _⟩
  case round =>
    obtain ⟨j, hj, rfl, hb, hown⟩ := hrel
    by_cases hlt : j < n
    · have e1 := cell_later hb (HK.out j hlt)
      have e2 := cell_later hb (HM.out j hlt)
      have hlb := cell_lt e1
      have hsz := hb.size
      have hkj := HR.out j hlt
      obtain ⟨κ, h4⟩ : ∃ κ : Nat, k j = (κ : Int) := ⟨(k j).toNat, by omega⟩
      · rw [h4] at e1 hkj
        have H4 := Lib.hid h4
        clear h4
        have hκ0 : (0 : Int) ≤ (κ : Int) := Int.natCast_nonneg _
        have hκ5 : (κ : Int) < 5 := by omega
        have HOWN := Lib.hid hown; clear hown
        go_wp2_with fail
        refine (is_four_v _ _ κ (m j) true _ (by simp) (by simp) (by simp) (by simp) (by simp; omega)).mono ?_; rintro e w2 ⟨rfl, hb2⟩
        have g1 : w2.cell? ⟨wr.heap.size, 0, none⟩ = some (.int .u8 κ) := (hb2.cell (p := ⟨_, _, none⟩) (by simp; omega)).trans (by simp)
        have g2 : w2.cell? ⟨wr.heap.size, 1, none⟩ = some (.int .i64 (m j)) := (hb2.cell (p := ⟨_, _, none⟩) (by simp; omega)).trans (by simp)
        have g3 : w2.cell? ⟨0, κ, none⟩ = some (.string ⟨(letterB κ).toArray⟩) := ((HENV.out.below hb).below (((((Below.refl _ _).alloc (Nat.le_refl _) _).alloc (by simp) _).trans (hb2.mono (by simp; omega))))).letter κ (by omega)
        have HF := HR2.out j hlt
        have hadd := itoa_short κ (m j) HF.1 HF.2
        have HE2 := Lib.hid ((HENV.out.below hb).below (((((Below.refl _ _).alloc (Nat.le_refl _) _).alloc (by simp) _).trans (hb2.mono (by simp; omega)))))
        go_wp2_with fail
        have HOWN2 := Lib.hid (own_below ((HOWN.out.alloc _).alloc _) hb2)
        have hsz2 := hb2.size
        have h0w : 0 < w.heap.size := cell_lt (HENV.out.letter 0 (by omega))
        have ag : u4.ownBlock ≠ some 0 := fun e => by have := HOWN.out.lt 0 e; omega
        have ah : u4.ownBlock ≠ some wr.heap.size := fun e => by have := HOWN.out.lt _ e; omega
        simp only [World.size_alloc] at hsz2
        go_region_held3 (fun w' => w'.cell? ⟨0, κ, none⟩ = some (.string ⟨(letterB κ).toArray⟩) ∧ w'.cell? ⟨wr.heap.size, 0, none⟩ = some (.int .u8 κ) ∧ w'.cell? ⟨wr.heap.size, 1, none⟩ = some (.int .i64 (m j)))
          (first
            | go_keep
            | (go_split_ands
               refine ⟨?_, ?_, ?_⟩
               · exact (hb3.cell (p := ⟨_, _, none⟩) (by simp; omega)).trans g3
               · exact (hb3.cell (p := ⟨_, _, none⟩) (by simp; omega)).trans g1
               · exact (hb3.cell (p := ⟨_, _, none⟩) (by simp; omega)).trans g2)
            | (go_split_ands
               have hs3 := hb3.size
               simp only [World.size_drew] at hs3
               refine ⟨?_, ?_, ?_⟩
               · (rw [hgrow.cell_far _ (by simp <;> omega) (Ne.symm ag)]; assumption)
               · (rw [hgrow.cell_far _ (by simp; omega) (Ne.symm ah)]; assumption)
               · (rw [hgrow.cell_far _ (by simp; omega) (Ne.symm ah)]; assumption)))
          (first
            | (refine step_append_lies _ (by rfl) _ _ _ (by rfl) w.heap.size 9 i0 _ 1 16 Tryd.underlying47 hi0 hz0 hz1 hz2 rfl (by omega) u4 j (evV k m j) (by rfl) ((own_below HOWN2.out.drew hb3).alloc _)
                ⟨w3.heap.size, 0, none⟩ 1 1 [.string (ByteArray.mk (letterB κ).toArray ++ ByteArray.mk (Lib.itoa (m j)).toArray)] (by rfl) (by rfl) (World.news_of_block (cs := #[.string (ByteArray.mk (letterB κ).toArray ++ ByteArray.mk (Lib.itoa (m j)).toArray)]) (t := 9) (fr := (0, 0)) (heap_alloc_new w3 _)) (by simp [Value.oneCell'])
                (by omega) (by unfold maxLen; omega) (by omega) (by have := hb3.size; simp at this; simp; omega) (w3.heap.size + 1) (by simp) ?_; intro gg cap w4 hown4 hgrow hat hltt)
            | (go_at_call 34; refine (fmt_any (m j) HF.1 HF.2 _ (by exact HE2.out.below ((Below.refl _ _).drew))).mono ?_; rintro e w3 ⟨rfl, hb3⟩))
        go_wp2_with fail
        go_roundw
        case rel => exact ⟨j + 1, by omega, by go_num, ((((((hb.alloc hsz _).alloc (by simp; omega) _).trans (hb2.mono (by simp; omega))).drew.trans (hb3.mono (by simp; omega))).alloc (by have := hb3.size; simp at this; omega) _).grown hgrow (by have := hb3.size; simp at this; simp; omega) (fun q e => (HOWN.out.lt q e).1)), evV_succ k m j κ H4.out ▸ hown4⟩
        case measure => simp [intOf]; omega
    · obtain rfl : j = n := by omega
      obtain ⟨g, cap, rfl⟩ : ∃ g cap, u4 = .slice (some ⟨g, 0, none⟩) j cap := by
        have h := hown
        rw [HNN.out] at h ⊢
        exact ownsRow_succ h
      have HOWN := Lib.hid hown; clear hown
      have HCAP := Lib.hid (own_cap HOWN.out)
      go_wp2_with fail
      have hlen := textB_le j k m HR2.out
      have hJ := Tryd.strings_Join g 0 cap (evBs k m j) ⟨#[32]⟩ wr (fun i x hx => by
        have h1 := (List.getElem?_eq_some_iff.1 hx).1
        rw [evBs_len] at h1
        have h2 := (HOWN.out.cellAt i (by omega)).trans (show (evV k m j)[i]? = some (.string x) by rw [evV_eq, List.getElem?_map, hx]; rfl)
        rw [Nat.zero_add]; exact h2) (HOWN.out.lt g rfl).2 (by rw [evBs_len]; omega) (by rw [evBs_len]; exact HCAP.out)
        (by rw [evBs_bytes]; show (textB j k m).length ≤ _; omega)
      rw [evBs_len, evBs_bytes] at hJ
      refine hJ.mono ?_; rintro e w5 ⟨rfl, hb5⟩
      go_wp2_with fail
      go_ret2
      exact ⟨rfl, hb.trans (hb5.mono hb.size)⟩

set_option maxHeartbeats 400000 in
theorem text_zero (a : Option Addr) (c : Nat) (k m : Nat → Int) (w : World) :
    Calls Tryd.prog 24 #[.slice a 0 c] w fun e w' => e = .returned (.tuple #[.string ⟨(textB 0 k m).toArray⟩, .int .i64 0]) ∧ Below w.heap.size w w' := by
  go_enter Tryd.func24, Tryd.ntmps24
  go_wp2_with fail
  refine wp_loop_rounds 1 ?_
  rw [rounds_succ]
  go_wp2_with fail
  refine (Tryd.strings_Join_none none 0 ⟨#[32]⟩ _).mono ?_; rintro e w5 ⟨rfl, rfl⟩
  go_wp2_with fail
  go_ret2
  exact ⟨rfl, Below.refl _ _⟩

set_option maxRecDepth 100000 in
set_option maxHeartbeats 2000000 in
/-- The first event of no kind, at p: no text. -/
theorem text_bad (b o n c p : Nat) (k m : Nat → Int) (w : World) (hn : n ≤ 1000000) (henv : Env w)
    (hk : ∀ i, i < n → w.cell? ⟨b, o + i * 2, none⟩ = some (.int .u8 (k i))) (hm : ∀ i, i < n → w.cell? ⟨b, o + i * 2 + 1, none⟩ = some (.int .i64 (m i)))
    (hp : p < n) (hbad : ¬ (1 ≤ k p ∧ k p ≤ 4)) (hr : ∀ i, i < p → 1 ≤ k i ∧ k i ≤ 4) (hr2 : ∀ i, i < n → -9223372036854775808 ≤ m i ∧ m i ≤ 9223372036854775807) :
    Calls Tryd.prog 24 #[.slice (some ⟨b, o, none⟩) n c] w fun e w' => e = .returned (.tuple #[.string ⟨#[]⟩, .int .i64 2]) ∧ Below w.heap.size w w' := by
  obtain ⟨i0, hi0, hz0, hz1, hz2⟩ := info_parts info9
  have HK := Lib.hid hk; have HM := Lib.hid hm; have HR := Lib.hid hr; have HR2 := Lib.hid hr2; have HENV := Lib.hid henv; have HBAD := Lib.hid hbad
  clear hk hm hr hr2 henv hbad
  go_enter Tryd.func24, Tryd.ntmps24
  go_wp2_with fail
  go_loopw [4, 9] (fun v i wr => ∃ j : Nat, j ≤ p ∧ i = .int .i64 j ∧ Below w.heap.size w wr ∧ wr.ownsRow w.heap.size 9 1 v j (evV k m j)) (fun _ i _ => n - (intOf i).toNat)
  case atStart => exact ⟨0, Nat.zero_le _, rfl, Below.refl _ _, World.ownsRow_nil _ _ _ _⟩
  case round =>
    obtain ⟨j, hj, rfl, hb, hown⟩ := hrel
    have hjn : j < n := by omega
    by_cases hlt : j < p
    · have e1 := cell_later hb (HK.out j hjn)
      have e2 := cell_later hb (HM.out j hjn)
      have hlb := cell_lt e1
      have hsz := hb.size
      have hkj := HR.out j hlt
      obtain ⟨κ, h4⟩ : ∃ κ : Nat, k j = (κ : Int) := ⟨(k j).toNat, by omega⟩
      · rw [h4] at e1 hkj
        have H4 := Lib.hid h4
        clear h4
        have hκ0 : (0 : Int) ≤ (κ : Int) := Int.natCast_nonneg _
        have hκ5 : (κ : Int) < 5 := by omega
        have HOWN := Lib.hid hown; clear hown
        go_wp2_with fail
        refine (is_four_v _ _ κ (m j) true _ (by simp) (by simp) (by simp) (by simp) (by simp; omega)).mono ?_; rintro e w2 ⟨rfl, hb2⟩
        have g1 : w2.cell? ⟨wr.heap.size, 0, none⟩ = some (.int .u8 κ) := (hb2.cell (p := ⟨_, _, none⟩) (by simp; omega)).trans (by simp)
        have g2 : w2.cell? ⟨wr.heap.size, 1, none⟩ = some (.int .i64 (m j)) := (hb2.cell (p := ⟨_, _, none⟩) (by simp; omega)).trans (by simp)
        have g3 : w2.cell? ⟨0, κ, none⟩ = some (.string ⟨(letterB κ).toArray⟩) := ((HENV.out.below hb).below (((((Below.refl _ _).alloc (Nat.le_refl _) _).alloc (by simp) _).trans (hb2.mono (by simp; omega))))).letter κ (by omega)
        have HF := HR2.out j hjn
        have hadd := itoa_short κ (m j) HF.1 HF.2
        have HE2 := Lib.hid ((HENV.out.below hb).below (((((Below.refl _ _).alloc (Nat.le_refl _) _).alloc (by simp) _).trans (hb2.mono (by simp; omega)))))
        go_wp2_with fail
        have HOWN2 := Lib.hid (own_below ((HOWN.out.alloc _).alloc _) hb2)
        have hsz2 := hb2.size
        have h0w : 0 < w.heap.size := cell_lt (HENV.out.letter 0 (by omega))
        have ag : u4.ownBlock ≠ some 0 := fun e => by have := HOWN.out.lt 0 e; omega
        have ah : u4.ownBlock ≠ some wr.heap.size := fun e => by have := HOWN.out.lt _ e; omega
        simp only [World.size_alloc] at hsz2
        go_region_held3 (fun w' => w'.cell? ⟨0, κ, none⟩ = some (.string ⟨(letterB κ).toArray⟩) ∧ w'.cell? ⟨wr.heap.size, 0, none⟩ = some (.int .u8 κ) ∧ w'.cell? ⟨wr.heap.size, 1, none⟩ = some (.int .i64 (m j)))
          (first
            | go_keep
            | (go_split_ands
               refine ⟨?_, ?_, ?_⟩
               · exact (hb3.cell (p := ⟨_, _, none⟩) (by simp; omega)).trans g3
               · exact (hb3.cell (p := ⟨_, _, none⟩) (by simp; omega)).trans g1
               · exact (hb3.cell (p := ⟨_, _, none⟩) (by simp; omega)).trans g2)
            | (go_split_ands
               have hs3 := hb3.size
               simp only [World.size_drew] at hs3
               refine ⟨?_, ?_, ?_⟩
               · (rw [hgrow.cell_far _ (by simp <;> omega) (Ne.symm ag)]; assumption)
               · (rw [hgrow.cell_far _ (by simp; omega) (Ne.symm ah)]; assumption)
               · (rw [hgrow.cell_far _ (by simp; omega) (Ne.symm ah)]; assumption)))
          (first
            | (refine step_append_lies _ (by rfl) _ _ _ (by rfl) w.heap.size 9 i0 _ 1 16 Tryd.underlying47 hi0 hz0 hz1 hz2 rfl (by omega) u4 j (evV k m j) (by rfl) ((own_below HOWN2.out.drew hb3).alloc _)
                ⟨w3.heap.size, 0, none⟩ 1 1 [.string (ByteArray.mk (letterB κ).toArray ++ ByteArray.mk (Lib.itoa (m j)).toArray)] (by rfl) (by rfl) (World.news_of_block (cs := #[.string (ByteArray.mk (letterB κ).toArray ++ ByteArray.mk (Lib.itoa (m j)).toArray)]) (t := 9) (fr := (0, 0)) (heap_alloc_new w3 _)) (by simp [Value.oneCell'])
                (by omega) (by unfold maxLen; omega) (by omega) (by have := hb3.size; simp at this; simp; omega) (w3.heap.size + 1) (by simp) ?_; intro gg cap w4 hown4 hgrow hat hltt)
            | (go_at_call 34; refine (fmt_any (m j) HF.1 HF.2 _ (by exact HE2.out.below ((Below.refl _ _).drew))).mono ?_; rintro e w3 ⟨rfl, hb3⟩))
        go_wp2_with fail
        go_roundw
        case rel => exact ⟨j + 1, by omega, by go_num, ((((((hb.alloc hsz _).alloc (by simp; omega) _).trans (hb2.mono (by simp; omega))).drew.trans (hb3.mono (by simp; omega))).alloc (by have := hb3.size; simp at this; omega) _).grown hgrow (by have := hb3.size; simp at this; simp; omega) (fun q e => (HOWN.out.lt q e).1)), evV_succ k m j κ H4.out ▸ hown4⟩
        case measure => simp [intOf]; omega
    · obtain rfl : j = p := by omega
      have e1 := cell_later hb (HK.out j hp)
      have e2 := cell_later hb (HM.out j hp)
      have hlb := cell_lt e1
      have hsz := hb.size
      clear hown
      go_wp2_with fail
      refine (is_four_v _ _ (k j) (m j) false _ (by simp) (by simp) (by simp) (by simp) (decide_eq_false HBAD.out)).mono ?_; rintro e w2 ⟨rfl, hb2⟩
      go_wp2_with fail
      go_ret2
      exact ⟨rfl, ((hb.alloc hsz _).alloc (by simp; omega) _).trans (hb2.mono (by simp; omega))⟩

/-- The first place at which a test fails. -/
theorem first_not (n : Nat) (q : Nat → Prop) (h : ∃ i, i < n ∧ ¬ q i) : ∃ p, p < n ∧ ¬ q p ∧ ∀ i, i < p → q i := by
  induction n with
  | zero => obtain ⟨i, hi, _⟩ := h; omega
  | succ n ih =>
    by_cases hp : ∃ i, i < n ∧ ¬ q i
    · obtain ⟨j, hj, hx, hf⟩ := ih hp
      exact ⟨j, by omega, hx, hf⟩
    · obtain ⟨i, hi, hx⟩ := h
      have : i = n := by
        by_cases hin : i < n
        · exact absurd ⟨i, hin, hx⟩ hp
        · omega
      subst this
      exact ⟨i, hi, hx, fun k hk => Classical.byContradiction fun hkx => hp ⟨k, hk, hkx⟩⟩

/-- Have all events a kind? -/
def okText (n : Nat) (k : Nat → Int) : Bool := decide (∀ i, i < n → 1 ≤ k i ∧ k i ≤ 4)

theorem text_any (a : Option Addr) (n c : Nat) (k m : Nat → Int) (w : World) (hn : n ≤ 1000000) (henv : Env w) (h : EvS w a n k m)
    (hr2 : ∀ i, i < n → -9223372036854775808 ≤ m i ∧ m i ≤ 9223372036854775807) :
    Calls Tryd.prog 24 #[.slice a n c] w fun e w' => e = .returned (if okText n k then .tuple #[.string ⟨(textB n k m).toArray⟩, .int .i64 0] else .tuple #[.string ⟨#[]⟩, .int .i64 2]) ∧ Below w.heap.size w w' := by
  by_cases ho : ∀ i, i < n → 1 ≤ k i ∧ k i ≤ 4
  · rw [if_pos (by simpa [okText] using ho)]
    rcases h with rfl | ⟨b, o, rfl, h1, h2⟩
    · exact text_zero a c k m w
    · cases n with
      | zero => exact text_zero _ c k m w
      | succ n' => exact text_go b o n' (n' + 1) c rfl k m w hn henv h1 h2 ho hr2
  · rw [if_neg (by simpa [okText] using ho)]
    obtain ⟨p, hp, hbad, hr⟩ := first_not n (fun i => 1 ≤ k i ∧ k i ≤ 4) (Classical.byContradiction fun hh => ho (fun i hi => Classical.byContradiction fun hq => hh ⟨i, hi, hq⟩))
    rcases h with rfl | ⟨b, o, rfl, h1, h2⟩
    · omega
    · exact text_bad b o n c p k m w hn henv h1 h2 hp hbad hr hr2

end Go.Proofs.YtadcegfdojocmaaDoor
