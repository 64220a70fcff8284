/- The walk over LexKnown: it answers true. By an AI agent. -/
import Derived.Test.YtdbkchngpbahaaaDoorKnownC
namespace Go.Proofs.YtdbkchngpbahaaaDoor
open Go.RowKit

def knownL : List (List UInt8) := [[], [32, 9, 13, 10], [120, 60, 60, 61, 55, 59], [118, 97, 114, 32, 97, 49, 91, 49, 48, 93], [49, 97], [48, 49], [48], [48, 48], [35], [50, 49, 52, 55, 52, 56, 51, 54, 52, 55], [50, 49, 52, 55, 52, 56, 51, 54, 52, 56], [57, 57, 57, 57, 57, 57, 57, 57, 57, 57, 57, 57, 57, 57, 57, 57, 57, 57, 57, 57, 57, 57, 57], [118, 97, 114, 32, 102, 117, 110, 99, 32, 105, 102, 32, 101, 108, 115, 101, 32, 102, 111, 114, 32, 114, 101, 116, 117, 114, 110, 32, 112, 114, 105, 110, 116, 32, 101, 120, 105, 116, 32, 114, 101, 97, 100, 32, 99, 97, 108, 108], [40, 41, 123, 125, 91, 93, 44, 59, 61, 32, 60, 32, 60, 61, 32, 61, 61, 32, 33, 61, 32, 43, 32, 45, 32, 124, 32, 94, 32, 42, 32, 47, 32, 37, 32, 38, 32, 60, 60, 32, 62, 62, 32, 33], [60, 60, 60], [60, 60, 61], [61, 61, 61], [33, 61, 61], [62, 32, 62], [62, 62, 62], [97, 95, 90, 57, 32, 95], [105, 102, 49, 32, 49, 105, 102], [97, 0], [97, 128]]
theorem known_short : ∀ x ∈ knownL, x.length ≤ 200 := by decide

/-- A block of bytes of the call's own, of n cells at least, the first k of which are blanks. -/
def BF (W : World) (B n k : Nat) : Prop := ∃ cs : Array Value, W.heap[B]? = some (.cells cs 5 (0, 0)) ∧ n ≤ cs.size ∧ ∀ j, j < k → cs[j]? = some (.int .u8 32)
theorem BF.start {W : World} {base B n c : Nat} {xs : List Value} (h : W.ownsRow base 5 1 (.slice (some ⟨B, 0, none⟩) n c) n xs) : BF W B n 0 := by
  rcases h.2 with ⟨h, _⟩ | ⟨g, cap, cur, h, _, hg, h1, _, h3, _⟩
  · cases h
  · injection h with h _ hc
    injection h with h
    injection h with h _ _
    subst h
    exact ⟨cur, hg, by omega, fun j hj => absurd hj (Nat.not_lt_zero _)⟩
theorem BF.cell {W : World} {B n k : Nat} (h : BF W B n k) {j : Nat} (hj : j < n) : ∃ v, W.cell? ⟨B, j, none⟩ = some v := by
  obtain ⟨cs, h, hc, _⟩ := h
  refine ⟨cs[j]'(by omega), ?_⟩
  unfold World.cell?; simp [h]
theorem BF.free {W : World} {B n k : Nat} (h : BF W B n k) (j : Nat) : W.frozen? ⟨B, j, none⟩ = false := by
  obtain ⟨cs, h, _, _⟩ := h
  simp [World.frozen?, h]
theorem BF.put {W : World} {B n k : Nat} (h : BF W B n k) (hk : k < n) : BF (W.setCell ⟨B, k, none⟩ (.int .u8 32)) B n (k + 1) := by
  obtain ⟨cs, h, hc, hall⟩ := h
  refine ⟨cs.setIfInBounds k (.int .u8 32), by simp [World.setCell, Array.getElem?_modify, h], by simpa using hc, fun j hj => ?_⟩
  by_cases hjk : j = k
  · subst hjk; rw [Array.getElem?_setIfInBounds_self_of_lt (by omega)]
  · rw [Array.getElem?_setIfInBounds_ne (by omega)]; exact hall j (by omega)
theorem BF.byts {W : World} {B n : Nat} (h : BF W B n n) : BytS W (some ⟨B, 0, none⟩) (List.replicate n 32) := by
  obtain ⟨cs, h, hc, hall⟩ := h
  refine Or.inr ⟨B, 0, rfl, fun i hi => ?_⟩
  rw [List.length_replicate] at hi
  rw [Nat.zero_add, List.getElem_replicate]
  unfold World.cell?
  simp only [h]
  exact hall i hi
theorem lex_fill (B n c : Nat) (w : World) (hn : n ≤ 65536) (h : BF w B n n) (hw : EW w) :
    Calls Tryd.prog 10 #[.slice (some ⟨B, 0, none⟩) n c] w fun e w' => ∃ b o c', e = .returned (.tuple #[.slice (some ⟨b, o, none⟩) 1 c', .int .i64 0, .int .i64 0]) ∧ w'.cell? ⟨b, o + 3, none⟩ = some (.int .i64 n) ∧ Below w.heap.size w w' := by
  have hl : (List.replicate n (32 : UInt8)).length = n := List.length_replicate
  have hx := lx_blanks_all n 0
  rw [Nat.zero_add] at hx
  have := lex_ok (some ⟨B, 0, none⟩) c (List.replicate n 32) _ w (by rw [hl]; exact hn) h.byts hw hx
  rw [hl] at this
  refine this.mono ?_
  rintro e w' ⟨A, c', rfl, ht, hb⟩
  obtain ⟨b, o, rfl, hc⟩ := toks_block ht (List.cons_ne_nil _ _)
  have h0 := (hc 0 _ rfl).2.2.2
  rw [Nat.zero_mul, Nat.add_zero] at h0
  exact ⟨b, o, c', rfl, h0, hb⟩
def gs4 : List GTok := [(⟨0, [], 0, 0⟩, 0), (⟨1, [97], 0, 0⟩, 0), (⟨5, [98], 0, 0⟩, 0), (⟨9, [99], 0, 0⟩, 0)]
def gs4c : Array Value := #[.int .u8 0, .string ⟨#[]⟩, .int .i64 0, .int .i64 0, .int .u8 1, .string ⟨#[97]⟩, .int .i64 0, .int .i64 0, .int .u8 5, .string ⟨#[98]⟩, .int .i64 0, .int .i64 0, .int .u8 9, .string ⟨#[99]⟩, .int .i64 0, .int .i64 0]
theorem gs4_at (w : World) : ∀ i t, gs4[i]? = some t → gAt (w.alloc (.cells gs4c 35)) w.heap.size (0 + i * 4) t := by
  intro i t h
  have hc := fun j => World.cell?_alloc_mark w gs4c 35 (0, 0) j
  match i with
  | 0 => injection h with h; subst h; exact ⟨hc 0, hc 1, hc 2, hc 3⟩
  | 1 => injection h with h; subst h; exact ⟨hc 4, hc 5, hc 6, hc 7⟩
  | 2 => injection h with h; subst h; exact ⟨hc 8, hc 9, hc 10, hc 11⟩
  | 3 => injection h with h; subst h; exact ⟨hc 12, hc 13, hc 14, hc 15⟩
  | i + 4 => simp [gs4] at h
theorem k_four (w : World) (hw : EW w) :
    Calls Tryd.prog 7 #[.string ⟨#[]⟩, .slice (some ⟨w.heap.size, 0, none⟩) 4 4] (w.alloc (.cells gs4c 35)) fun e w' => e = .returned (.bool true) ∧ Below w.heap.size w w' :=
  (names_small ⟨#[]⟩ w.heap.size 0 4 gs4 _ (hw.below ((Below.refl _ _).alloc (Nat.le_refl _) _)) (by decide) (by decide) (by decide) (gs4_at w)).mono fun e w' ⟨he, hb⟩ => ⟨he, ((Below.refl _ _).alloc (Nat.le_refl _) _).trans (hb.mono (by simp))⟩
def fiveL : List (List UInt8) := [[], [97], [60], [49], [61]]
theorem five_short : ∀ x ∈ fiveL, x.length ≤ 1 := by decide
theorem conv_cells (W : World) (s : ByteArray) (o : Obj) (i : Nat) (h : i < s.data.toList.length) : ((Lib.bytesWorld W 5 s).alloc o).cell? ⟨W.heap.size, 0 + i, none⟩ = some (.int .u8 s.data.toList[i].toNat) := by
  have hi' : i < s.size := by rw [← len_eq]; exact h
  have hc := Lib.bytesWorld_cell W 5 s i hi'
  rw [Nat.zero_add]
  have hb : Below (Lib.bytesWorld W 5 s).heap.size (Lib.bytesWorld W 5 s) ((Lib.bytesWorld W 5 s).alloc o) := (Below.refl _ _).alloc (Nat.le_refl _) _
  rw [(hb.cell (p := ⟨W.heap.size, i, none⟩) (cell_lt' hc)).trans hc, List.getD_eq_getElem?_getD, List.getElem?_eq_getElem h]
  rfl
theorem conv_spare (W : World) (s : ByteArray) (o : Obj) (n : Nat) (h : n + 1 ≤ grownCap W s.size 0 5) : (((Lib.bytesWorld W 5 s).alloc o).cell? ⟨W.heap.size, n, none⟩).isSome = true ∧ ((Lib.bytesWorld W 5 s).alloc o).frozen? ⟨W.heap.size, n, none⟩ = false := by
  have hb : Below (Lib.bytesWorld W 5 s).heap.size (Lib.bytesWorld W 5 s) ((Lib.bytesWorld W 5 s).alloc o) := (Below.refl _ _).alloc (Nat.le_refl _) _
  have h1 := Lib.bytesWorld_at_new W 5 s
  have hlt : W.heap.size < (Lib.bytesWorld W 5 s).heap.size := by rw [Lib.bytesWorld_size]; omega
  have h2 := (hb.block W.heap.size hlt).trans h1
  have hsz : (Lib.bytesCells W 5 s).size = grownCap W s.size 0 5 := by
    have := grownCap_ge W s.size 0 5
    have e : s.data.size = s.size := rfl
    simp only [Lib.bytesCells, Array.size_append, Array.size_map, Array.size_replicate, e]; omega
  constructor
  · unfold World.cell?; simp [h2]; omega
  · simp [World.frozen?, h2]; omega

set_option maxRecDepth 100000 in
set_option maxHeartbeats 16000000 in
theorem known_any (w : World) (hw : EW w) : Calls Tryd.prog 8 #[] w fun e w' => e = .returned (.bool true) ∧ Below w.heap.size w w' := by
  have HW := Lib.hid hw; clear hw
  have HS0 : Hid (StrAt (w.alloc (.cells #[.string { data := #[] }, .string { data := #[32, 9, 13, 10] }, .string { data := #[120, 60, 60, 61, 55, 59] }, .string { data := #[118, 97, 114, 32, 97, 49, 91, 49, 48, 93] }, .string { data := #[49, 97] }, .string { data := #[48, 49] }, .string { data := #[48] }, .string { data := #[48, 48] }, .string { data := #[35] }, .string { data := #[50, 49, 52, 55, 52, 56, 51, 54, 52, 55] }, .string { data := #[50, 49, 52, 55, 52, 56, 51, 54, 52, 56] }, .string { data := #[57, 57, 57, 57, 57, 57, 57, 57, 57, 57, 57, 57, 57, 57, 57, 57, 57, 57, 57, 57, 57, 57, 57] }, .string { data := #[118, 97, 114, 32, 102, 117, 110, 99, 32, 105, 102, 32, 101, 108, 115, 101, 32, 102, 111, 114, 32, 114, 101, 116, 117, 114, 110, 32, 112, 114, 105, 110, 116, 32, 101, 120, 105, 116, 32, 114, 101, 97, 100, 32, 99, 97, 108, 108] }, .string { data := #[40, 41, 123, 125, 91, 93, 44, 59, 61, 32, 60, 32, 60, 61, 32, 61, 61, 32, 33, 61, 32, 43, 32, 45, 32, 124, 32, 94, 32, 42, 32, 47, 32, 37, 32, 38, 32, 60, 60, 32, 62, 62, 32, 33] }, .string { data := #[60, 60, 60] }, .string { data := #[60, 60, 61] }, .string { data := #[61, 61, 61] }, .string { data := #[33, 61, 61] }, .string { data := #[62, 32, 62] }, .string { data := #[62, 62, 62] }, .string { data := #[97, 95, 90, 57, 32, 95] }, .string { data := #[105, 102, 49, 32, 49, 105, 102] }, .string { data := #[97, 0] }, .string { data := #[97, 128] }] 9)) w.heap.size knownL) := Lib.hid (strAt_new w knownL)
  have HB0 : Hid (Below w.heap.size w (w.alloc (.cells #[.string { data := #[] }, .string { data := #[32, 9, 13, 10] }, .string { data := #[120, 60, 60, 61, 55, 59] }, .string { data := #[118, 97, 114, 32, 97, 49, 91, 49, 48, 93] }, .string { data := #[49, 97] }, .string { data := #[48, 49] }, .string { data := #[48] }, .string { data := #[48, 48] }, .string { data := #[35] }, .string { data := #[50, 49, 52, 55, 52, 56, 51, 54, 52, 55] }, .string { data := #[50, 49, 52, 55, 52, 56, 51, 54, 52, 56] }, .string { data := #[57, 57, 57, 57, 57, 57, 57, 57, 57, 57, 57, 57, 57, 57, 57, 57, 57, 57, 57, 57, 57, 57, 57] }, .string { data := #[118, 97, 114, 32, 102, 117, 110, 99, 32, 105, 102, 32, 101, 108, 115, 101, 32, 102, 111, 114, 32, 114, 101, 116, 117, 114, 110, 32, 112, 114, 105, 110, 116, 32, 101, 120, 105, 116, 32, 114, 101, 97, 100, 32, 99, 97, 108, 108] }, .string { data := #[40, 41, 123, 125, 91, 93, 44, 59, 61, 32, 60, 32, 60, 61, 32, 61, 61, 32, 33, 61, 32, 43, 32, 45, 32, 124, 32, 94, 32, 42, 32, 47, 32, 37, 32, 38, 32, 60, 60, 32, 62, 62, 32, 33] }, .string { data := #[60, 60, 60] }, .string { data := #[60, 60, 61] }, .string { data := #[61, 61, 61] }, .string { data := #[33, 61, 61] }, .string { data := #[62, 32, 62] }, .string { data := #[62, 62, 62] }, .string { data := #[97, 95, 90, 57, 32, 95] }, .string { data := #[105, 102, 49, 32, 49, 105, 102] }, .string { data := #[97, 0] }, .string { data := #[97, 128] }] 9))) := Lib.hid ((Below.refl _ _).alloc (Nat.le_refl _) _)
  go_enter Tryd.func8, Tryd.ntmps8
  go_wp2_with fail
  generalize w.alloc (.cells #[.string { data := #[] }, .string { data := #[32, 9, 13, 10] }, .string { data := #[120, 60, 60, 61, 55, 59] }, .string { data := #[118, 97, 114, 32, 97, 49, 91, 49, 48, 93] }, .string { data := #[49, 97] }, .string { data := #[48, 49] }, .string { data := #[48] }, .string { data := #[48, 48] }, .string { data := #[35] }, .string { data := #[50, 49, 52, 55, 52, 56, 51, 54, 52, 55] }, .string { data := #[50, 49, 52, 55, 52, 56, 51, 54, 52, 56] }, .string { data := #[57, 57, 57, 57, 57, 57, 57, 57, 57, 57, 57, 57, 57, 57, 57, 57, 57, 57, 57, 57, 57, 57, 57] }, .string { data := #[118, 97, 114, 32, 102, 117, 110, 99, 32, 105, 102, 32, 101, 108, 115, 101, 32, 102, 111, 114, 32, 114, 101, 116, 117, 114, 110, 32, 112, 114, 105, 110, 116, 32, 101, 120, 105, 116, 32, 114, 101, 97, 100, 32, 99, 97, 108, 108] }, .string { data := #[40, 41, 123, 125, 91, 93, 44, 59, 61, 32, 60, 32, 60, 61, 32, 61, 61, 32, 33, 61, 32, 43, 32, 45, 32, 124, 32, 94, 32, 42, 32, 47, 32, 37, 32, 38, 32, 60, 60, 32, 62, 62, 32, 33] }, .string { data := #[60, 60, 60] }, .string { data := #[60, 60, 61] }, .string { data := #[61, 61, 61] }, .string { data := #[33, 61, 61] }, .string { data := #[62, 32, 62] }, .string { data := #[62, 62, 62] }, .string { data := #[97, 95, 90, 57, 32, 95] }, .string { data := #[105, 102, 49, 32, 49, 105, 102] }, .string { data := #[97, 0] }, .string { data := #[97, 128] }] 9) = W0 at *
  go_loopw [18] (fun i wr => ∃ k : Nat, k ≤ 24 ∧ i = .int .i64 k ∧ Below W0.heap.size W0 wr) (fun i _ => 24 - (intOf i).toNat)
  case atStart => exact ⟨0, by omega, rfl, Below.refl _ _⟩
  case round =>
    obtain ⟨k, hk, rfl, hbr⟩ := hrel
    by_cases hlt : k < 24
    · obtain ⟨x, hx⟩ : ∃ x, knownL[k]? = some x := ⟨_, List.getElem?_eq_getElem (show k < knownL.length from hlt)⟩
      have hc0 := HS0.out k x hx
      have hcell := (hbr.cell (p := ⟨w.heap.size, k, none⟩) (cell_lt' hc0)).trans hc0
      have hxs := known_short x (List.mem_of_getElem? hx)
      obtain ⟨s, hs⟩ : ∃ s : ByteArray, s = ⟨x.toArray⟩ := ⟨_, rfl⟩
      have hss : s.size ≤ 200 := by rw [← len_eq, hs]; exact hxs
      rw [← hs] at hcell
      have kS := fun (W : World) => Lib.run_convert_string_bytes (P := Tryd.prog) W 9 22 5 s (u := .string) Tryd.underlying9 Tryd.underlying22 Tryd.underlying5
      have HBR := Lib.hid (below_next HB0.out hbr)
      have hk0 : (0 : Int) ≤ (k : Int) := by omega
      have hk1 : (k : Int) < 24 := by omega
      clear hc0 hx hxs hs
      go_wp2_with fail
      have HB1 := Lib.hid (below_next HBR.out (Lib.bytesWorld_below wr 5 s))
      refine (k_tells _ _ _ s.data.toList _ (len_eq s) hss (HW.out.below HB1.out) (byts_bytes wr s)).mono ?_; rintro e w1 ⟨rfl, hb1⟩
      have HB2 := Lib.hid (below_next HB1.out hb1)
      have HR2 := Lib.hid (below_next (below_next hbr (Lib.bytesWorld_below wr 5 s)) hb1)
      clear hb1
      go_wp2_with fail
      have HB3 := Lib.hid (below_next HB2.out (Lib.bytesWorld_below w1 5 s))
      refine (k_spelled _ _ _ s.data.toList _ (len_eq s) hss (conv_cap w1 s (by omega)).1 (conv_cap w1 s (by omega)).2 (Option.some_ne_none _) (HW.out.below HB3.out) (byts_bytes w1 s)).mono ?_; rintro e w2 ⟨rfl, hb2⟩
      have HB4 := Lib.hid (below_next HB3.out hb2)
      have HR4 := Lib.hid (below_next (below_next HR2.out (Lib.bytesWorld_below w1 5 s)) hb2)
      clear hb2
      go_wp2_with fail
      refine (k_names s _ hss (HW.out.below HB4.out)).mono ?_; rintro e w3 ⟨rfl, hb3⟩
      have HB5 := Lib.hid (below_next HB4.out hb3)
      have HR5 := Lib.hid (below_next HR4.out hb3)
      clear hb3 hcell
      go_wp2_with fail
      go_loopw [3] (fun j w4 => ∃ m : Nat, m ≤ 6 ∧ j = .int .i64 m ∧ Below w3.heap.size w3 w4) (fun j _ => 6 - (intOf j).toNat)
      case atStart => exact ⟨0, by omega, rfl, Below.refl _ _⟩
      case round =>
        obtain ⟨m, hm, rfl, hbm⟩ := hrel
        by_cases hmt : m < 6
        · have hm0 : (0 : Int) ≤ (m : Int) := by omega
          have hm1 : (m : Int) < 6 := by omega
          go_wp2_with fail
          have HB6 := Lib.hid (below_next (below_next HB5.out hbm) (Lib.bytesWorld_below wr 5 s))
          refine (k_blanks _ _ _ s.data.toList m m _ (len_eq s) hss (conv_cap wr s (by omega)).1 (conv_cap wr s (by omega)).2 (Option.some_ne_none _) (by omega) (by omega) (HW.out.below HB6.out) (byts_bytes wr s)).mono ?_; rintro e w5 ⟨rfl, hb5⟩
          go_wp2_with fail
          go_roundw
          case rel => exact ⟨m + 1, by omega, by go_num, below_next (below_next hbm (Lib.bytesWorld_below wr 5 s)) hb5⟩
          case measure => simp [intOf]; omega
        · go_wp2_with fail
          go_roundw
          case rel => exact ⟨k + 1, by omega, by go_num, below_next HR5.out hbm⟩
          case measure => simp [intOf]; omega
    · go_wp2_with fail
      have HB1 := Lib.hid (below_next HB0.out hbr)
      clear hbr HS0 HB0
      go_loopw [4] (fun i w1 => ∃ m : Nat, m ≤ 256 ∧ i = .int .i64 m ∧ Below w.heap.size w w1) (fun i _ => 256 - (intOf i).toNat)
      case atStart => exact ⟨0, by omega, rfl, HB1.out⟩
      case round =>
        obtain ⟨m, hm, rfl, hbm⟩ := hrel
        by_cases hmt : m < 256
        · obtain ⟨cc, hcc⟩ : ∃ cc : UInt8, cc.toNat = m := ⟨UInt8.ofNat m, UInt8.toNat_ofNat_of_lt' (by show m < 256; omega)⟩
          subst hcc
          have hc0 : (0 : Int) ≤ (cc.toNat : Int) := by omega
          have hc1 : (cc.toNat : Int) < 256 := by omega
          have hc2 : (cc.toNat : Int) ≤ 255 := by omega
          have HSF : Hid (StrAt (wr.alloc (.cells #[.string { data := #[] }, .string { data := #[97] }, .string { data := #[60] }, .string { data := #[49] }, .string { data := #[61] }] 9)) wr.heap.size fiveL) := Lib.hid (strAt_new wr fiveL)
          have HBF : Hid (Below w.heap.size w (wr.alloc (.cells #[.string { data := #[] }, .string { data := #[97] }, .string { data := #[60] }, .string { data := #[49] }, .string { data := #[61] }] 9))) := Lib.hid (hbm.alloc hbm.size _)
          clear hbm
          go_wp2_with fail
          generalize wr.alloc (.cells #[.string { data := #[] }, .string { data := #[97] }, .string { data := #[60] }, .string { data := #[49] }, .string { data := #[61] }] 9) = WF at *
          generalize wr.heap.size = BF at *
          go_loopw [56] (fun i w2 => ∃ k : Nat, k ≤ 5 ∧ i = .int .i64 k ∧ Below WF.heap.size WF w2) (fun i _ => 5 - (intOf i).toNat)
          case atStart => exact ⟨0, by omega, rfl, Below.refl _ _⟩
          case round =>
            obtain ⟨k, hk, rfl, hbk⟩ := hrel
            by_cases hkt : k < 5
            · obtain ⟨x, hx⟩ : ∃ x, fiveL[k]? = some x := ⟨_, List.getElem?_eq_getElem (show k < fiveL.length from hkt)⟩
              have hce := HSF.out k x hx
              have hcell := (hbk.cell (p := ⟨BF, k, none⟩) (cell_lt' hce)).trans hce
              have hxs := five_short x (List.mem_of_getElem? hx)
              obtain ⟨s, hs⟩ : ∃ s : ByteArray, s = ⟨x.toArray⟩ := ⟨_, rfl⟩
              have hss : s.size ≤ 1 := by rw [← len_eq, hs]; exact hxs
              rw [← hs] at hcell
              have kS := fun (W : World) => Lib.run_convert_string_bytes (P := Tryd.prog) W 9 22 5 s (u := .string) Tryd.underlying9 Tryd.underlying22 Tryd.underlying5
              have HBR := Lib.hid (below_next HBF.out hbk)
              have hk0 : (0 : Int) ≤ (k : Int) := by omega
              have hk1 : (k : Int) < 5 := by omega
              clear hce hx hxs hs
              have HCAP := Lib.hid (conv_cap wr s (by omega)).2
              have HWB : Hid (Below WF.heap.size WF ((Lib.bytesWorld wr 5 s).alloc (.cells #[.int .u8 cc.toNat] 5))) := Lib.hid (by
                have h := below_next hbk (Lib.bytesWorld_below wr 5 s)
                exact h.alloc h.size _)
              have hkz := hbk.size
              go_wp2_with (at_builtin; refine push_law _ rfl _ _ rfl wr.heap.size s.size (grownCap wr s.size 0 5) s.data.toList cc rfl (len_eq s) (by omega) HCAP.out (conv_cells wr s _) _ _ rfl ?_ (conv_spare wr s _ s.size) WF.heap.size ?_ ?_ ?_)
              · first
                  | exact World.cell?_alloc_mark _ _ _ _ 0
                  | (rw [← Lib.bytesWorld_size wr 5 s]; exact World.cell?_alloc_mark _ _ _ _ 0)
              · exact hkz
              · exact HWB.out.size
              intro g cap' w1 hby hb1 hc1 hc2
              have HK7 := Lib.hid (HWB.out.trans hb1)
              have HB7 := Lib.hid (below_next HBF.out HK7.out)
              have HBY := Lib.hid hby
              have hll : (s.data.toList ++ [cc]).length = s.size + 1 := by rw [List.length_append, len_eq]; rfl
              have HLL := Lib.hid hll
              clear hby hb1 hc1 hc2 HCAP HWB kS hll hbk HBR
              go_wp2_with fail
              refine (k_tells _ _ _ (s.data.toList ++ [cc]) w1 HLL.out (by omega) (HW.out.below HB7.out) HBY.out).mono ?_; rintro e w2 ⟨rfl, hb2⟩
              have HK8 := Lib.hid (below_next HK7.out hb2)
              have HBY2 := Lib.hid (HBY.out.below hb2)
              clear hb2
              go_wp2_with (at_builtin; refine str_law _ rfl _ _ rfl _ cc s rfl rfl (by omega) (heap_alloc_new w2 _) w2.heap.size ?_ ?_ ?_)
              · exact Nat.le_refl _
              · simp
              intro g2 cap2 w3 hby3 hb3
              have h23 := ((Below.refl w2.heap.size w2).alloc (Nat.le_refl _) (.cells #[.int .u8 cc.toNat] 5)).trans hb3
              have HK9 := Lib.hid (below_next HK8.out h23)
              have HBY4 := Lib.hid (HBY2.out.below h23)
              have HB9 := Lib.hid (below_next HBF.out HK9.out)
              have HBY3 := Lib.hid hby3
              have hl3 : (cc :: s.data.toList).length = 1 + s.size := by rw [List.length_cons, len_eq]; omega
              have HL3 := Lib.hid hl3
              clear hby3 hb3 hl3 h23
              go_wp2_with fail
              refine (k_tells _ _ _ (cc :: s.data.toList) w3 HL3.out (by omega) (HW.out.below HB9.out) HBY3.out).mono ?_; rintro e w4 ⟨rfl, hb4⟩
              have HK10 := Lib.hid (below_next HK9.out hb4)
              have kX := (HBY4.out.below hb4).conv cap'
              rw [HLL.out] at kX
              obtain ⟨sx, hsx⟩ : ∃ sx : ByteArray, sx = ⟨(s.data.toList ++ [cc]).toArray⟩ := ⟨_, rfl⟩
              have hsz : sx.size = s.size + 1 := by rw [← len_eq, hsx]; exact HLL.out
              rw [← hsx] at kX
              clear hb4 hsx
              go_wp2_with fail
              refine (k_names sx _ (by omega) (HW.out.below (below_next HBF.out HK10.out))).mono ?_; rintro e w5 ⟨rfl, hb5⟩
              clear kX
              go_wp2_with fail
              go_roundw
              case rel => exact ⟨k + 1, by omega, by go_num, below_next HK10.out hb5⟩
              case measure => simp [intOf]; omega
            · go_wp2_with fail
              go_roundw
              case rel => exact ⟨cc.toNat + 1, by omega, by go_num, below_next HBF.out hbk⟩
              case measure => simp [intOf]; omega
        · have HBM := Lib.hid hbm
          clear hbm
          obtain ⟨i0, hi0, hz0, hz1, hz2⟩ := info_parts info5
          go_wp2_with (refine wpList_make_full _ rfl _ _ 22 rfl w.heap.size 5 i0 (.int .u8 0) 1 Tryd.underlying22 hi0 hz0 hz1 .i64 .i64 65537 65537 65537 rfl rfl rfl rfl (by rw [hz2]; decide) (by unfold maxLen; decide) HBM.out.size ?_)
          intro w1 hown1 hg1
          have HB2 := Lib.hid (HBM.out.grown hg1 HBM.out.size (fun q e => by cases e))
          clear hown1 hg1
          go_wp2_with fail
          refine (lex_limit _ 65537 _ w1 (by decide)).mono ?_; rintro e w2 ⟨rfl, rfl⟩
          go_wp2_with (refine wpList_make_full _ rfl _ _ 22 rfl w1.heap.size 5 i0 (.int .u8 0) 1 Tryd.underlying22 hi0 hz0 hz1 .i64 .i64 65536 65536 65536 rfl rfl rfl rfl (by rw [hz2]; decide) (by unfold maxLen; decide) (Nat.le_refl _) ?_)
          intro w2 hown2 hg2
          have HB3 := Lib.hid (HB2.out.trans ((Below.refl w1.heap.size w1).grown hg2 (Nat.le_refl _) (fun q e => by cases e) |>.mono HB2.out.size))
          have HF0 := Lib.hid (BF.start hown2)
          have hsz1 := HB2.out.size
          generalize w1.heap.size = B at *
          clear hown2 hg2
          go_wp2_with fail
          go_loopw [12] (fun i w3 => ∃ j : Nat, j ≤ 65536 ∧ i = .int .i64 j ∧ Below w.heap.size w w3 ∧ Hid (BF w3 B 65536 j)) (fun i _ => 65536 - (intOf i).toNat)
          case atStart => exact ⟨0, by omega, rfl, HB3.out, HF0⟩
          case round =>
            obtain ⟨j, hj, rfl, hbj, HF⟩ := hrel
            by_cases hjt : j < 65536
            · obtain ⟨v0, hc0⟩ := HF.out.cell hjt
              have hf0 := HF.out.free j
              have hj0 : (0 : Int) ≤ (j : Int) := by omega
              have hj1 : (j : Int) < 65536 := by omega
              go_wp2_with fail
              go_roundw
              case rel => exact ⟨j + 1, by omega, by go_num, hbj.setCell (p := ⟨B, j, none⟩) hsz1 _, Lib.hid (HF.out.put hjt)⟩
              case measure => simp [intOf]; omega
            · have hje : j = 65536 := by omega
              have HFF : Hid (BF wr B 65536 65536) := Lib.hid (by have := HF.out; rw [hje] at this; exact this)
              have HBJ := Lib.hid hbj
              have hj1 : ¬ ((j : Int) < 65536) := by omega
              have hj2 : decide ((j : Int) < 65536) = false := decide_eq_false hj1
              clear HF hje hbj hjt hj
              go_wp2_with fail
              refine (lex_fill B 65536 65536 wr (Nat.le_refl _) HFF.out (HW.out.below HBJ.out)).mono ?_; rintro e w4 ⟨bb, ob, cb, rfl, hcell, hb4⟩
              have HB4 := Lib.hid (below_next HBJ.out hb4)
              clear hb4
              go_wp2_with fail
              refine (k_four w4 (HW.out.below HB4.out)).mono ?_; rintro e w5 ⟨rfl, hb5⟩
              go_wp2_with fail
              refine (works_any _ (HW.out.below (below_next HB4.out hb5))).mono ?_; rintro e w6 ⟨rfl, hb6⟩
              go_wp2_with fail
              go_ret
              exact ⟨rfl, below_next (below_next HB4.out hb5) hb6⟩
end Go.Proofs.YtdbkchngpbahaaaDoor
