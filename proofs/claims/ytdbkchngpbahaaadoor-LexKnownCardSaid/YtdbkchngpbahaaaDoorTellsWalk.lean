/- The walk over LexTells: whatever the source, it answers true. By an AI agent. -/
import Derived.Test.YtdbkchngpbahaaaDoorRefE
namespace Go.Proofs.YtdbkchngpbahaaaDoor
open Go.RowKit

set_option maxRecDepth 100000 in
set_option maxHeartbeats 4000000 in
theorem same_go (bx ox cx by' oy cy : Nat) (ts : List Tok) (w : World) (hn : ts.length ≤ 1000000) (hx : ∀ i t, ts[i]? = some t → cellsAt w bx (ox + i * 4) t) (hy : ∀ i t, ts[i]? = some t → cellsAt w by' (oy + i * 4) t) :
    Calls Tryd.prog 12 #[.slice (some ⟨bx, ox, none⟩) ts.length cx, .slice (some ⟨by', oy, none⟩) ts.length cy] w fun e w' => e = .returned (.bool true) ∧ Below w.heap.size w w' := by
  have HX := Lib.hid hx; have HY := Lib.hid hy
  clear hx hy
  obtain ⟨n, hLN⟩ : ∃ n, ts.length = n := ⟨_, rfl⟩
  rw [hLN] at hn ⊢
  have HLN := Lib.hid hLN
  clear hLN
  go_enter Tryd.func12, Tryd.ntmps12
  go_wp2_with fail
  go_loopw [5] (fun i wr => ∃ k : Nat, k ≤ n ∧ i = .int .i64 k ∧ Below w.heap.size w wr) (fun i _ => n - (intOf i).toNat)
  case atStart => exact ⟨0, Nat.zero_le _, rfl, Below.refl _ _⟩
  case round =>
    obtain ⟨k, hk, rfl, hbr⟩ := hrel
    by_cases hlt : k < n
    · obtain ⟨t, ht⟩ : ∃ t, ts[k]? = some t := ⟨_, List.getElem?_eq_getElem (by rw [HLN.out]; exact hlt)⟩
      obtain ⟨x0, x1, x2, x3⟩ := (HX.out k t ht).below hbr
      obtain ⟨y0, y1, y2, y3⟩ := (HY.out k t ht).below hbr
      have hk0 : (0 : Int) ≤ (k : Int) := by omega
      have hk1 : (k : Int) < (n : Int) := by omega
      clear ht
      go_upto_region 6 with fail
      go_quiet (fail)
      go_wp2_with fail
      go_roundw
      case rel => exact ⟨k + 1, by omega, by go_num, hbr.trans ((below_drewN _ nq).mono hbr.size)⟩
      case measure => simp [intOf]; omega
    · go_wp2_with fail
      go_ret
      exact ⟨rfl, hbr⟩
set_option maxHeartbeats 400000 in
theorem same_nil (w : World) : Calls Tryd.prog 12 #[.slice none 0 0, .slice none 0 0] w fun e w' => e = .returned (.bool true) ∧ Below w.heap.size w w' := by
  go_enter Tryd.func12, Tryd.ntmps12
  go_wp2_with fail
  refine wp_loop_rounds 1 ?_
  rw [rounds_succ]
  go_wp2_with fail
  go_ret
  exact ⟨rfl, Below.refl _ _⟩
theorem same_v (bx ox cx by' oy cy n : Nat) (ts : List Tok) (w : World) (hl : ts.length = n) (hn : n ≤ 1000000) (hx : ∀ i t, ts[i]? = some t → cellsAt w bx (ox + i * 4) t) (hy : ∀ i t, ts[i]? = some t → cellsAt w by' (oy + i * 4) t) :
    Calls Tryd.prog 12 #[.slice (some ⟨bx, ox, none⟩) n cx, .slice (some ⟨by', oy, none⟩) n cy] w fun e w' => e = .returned (.bool true) ∧ Below w.heap.size w w' := by
  subst hl; exact same_go bx ox cx by' oy cy ts w hn hx hy

/-- A block of n bytes at least, none of these frozen. -/
def FB (W : World) (B n : Nat) : Prop := ∃ (cs : Array Value) (m : Nat), W.heap[B]? = some (.cells cs 5 (m, m + 1)) ∧ n ≤ m ∧ n ≤ cs.size
theorem FB.cell {W : World} {B n k : Nat} (h : FB W B n) (hk : k < n) : ∃ v, W.cell? ⟨B, k, none⟩ = some v := by
  obtain ⟨cs, m, h, _, hc⟩ := h
  refine ⟨cs[k]'(by omega), ?_⟩
  unfold World.cell?; simp [h]
theorem FB.free {W : World} {B n k : Nat} (h : FB W B n) (hk : k < n) : W.frozen? ⟨B, k, none⟩ = false := by
  obtain ⟨cs, m, h, hm, _⟩ := h
  simp [World.frozen?, h]; omega
theorem FB.put {W : World} {B n k : Nat} (h : FB W B n) (u : Value) : FB (W.setCell ⟨B, k, none⟩ u) B n := by
  obtain ⟨cs, m, h, hm, hc⟩ := h
  refine ⟨cs.setIfInBounds k u, m, ?_, hm, by simpa using hc⟩
  simp [World.setCell, Array.getElem?_modify, h]
theorem FB.below {W W' : World} {B n : Nat} (h : FB W B n) (hb : Below W.heap.size W W') : FB W' B n := by
  obtain ⟨cs, m, h, hm, hc⟩ := h
  have hlt : B < W.heap.size := by
    rcases Nat.lt_or_ge B W.heap.size with h' | h'
    · exact h'
    · rw [Array.getElem?_eq_none h'] at h; cases h
  exact ⟨cs, m, (hb.block B hlt).trans h, hm, hc⟩
theorem FB.bytes (w : World) (s : ByteArray) : FB (Lib.bytesWorld w 5 s) w.heap.size s.size := by
  have h := Lib.bytesWorld_at_new w 5 s
  have hsz : s.size ≤ (Lib.bytesCells w 5 s).size := by
    rcases Nat.lt_or_ge (Lib.bytesCells w 5 s).size s.size with h' | h'
    · have := Lib.bytesWorld_cell w 5 s _ h'
      unfold World.cell? at this
      simp [h] at this
    · exact h'
  exact ⟨_, _, h, hsz, hsz⟩
theorem cells_other {w w' : World} {b o : Nat} {t : Tok} (h : cellsAt w b o t) (hb : w'.heap[b]? = w.heap[b]?) : cellsAt w' b o t :=
  ⟨(World.cell?_of_block (a := ⟨b, _, none⟩) hb).trans h.1, (World.cell?_of_block (a := ⟨b, _, none⟩) hb).trans h.2.1, (World.cell?_of_block (a := ⟨b, _, none⟩) hb).trans h.2.2.1, (World.cell?_of_block (a := ⟨b, _, none⟩) hb).trans h.2.2.2⟩
theorem own_toks {w : World} {base : Nat} {v : Value} {e : TypeId} {ts : List Tok} (h : w.ownsRow base e 4 v ts.length (tokCells ts)) (hne : ts ≠ []) :
    ∃ b o c, v = .slice (some ⟨b, o, none⟩) ts.length c ∧ base ≤ b ∧ ∀ i t, ts[i]? = some t → cellsAt w b (o + i * 4) t := by
  have hpos : 0 < ts.length := List.length_pos_iff.2 hne
  obtain ⟨g, cap, hv, hg, hlt⟩ := h.form hpos
  refine ⟨g, 0, cap, hv, hg, fun i t ht => ?_⟩
  subst hv
  obtain ⟨hi, rfl⟩ := List.getElem?_eq_some_iff.1 ht
  obtain ⟨h0, h1, h2, h3⟩ := tokCells_at ts i hi
  rw [Nat.zero_add]
  exact ⟨(h.cellAt _ (by omega)).trans h0, (h.cellAt _ (by omega)).trans h1, (h.cellAt _ (by omega)).trans h2, (h.cellAt _ (by omega)).trans h3⟩

set_option maxRecDepth 100000 in
set_option maxHeartbeats 8000000 in
theorem ltells_big (a : Option Addr) (na ca : Nat) (w : World) (hw : EW w) (h : 2000 < na) :
    Calls Tryd.prog 3 #[.slice a na ca] w fun e w' => e = .returned (.bool true) ∧ Below w.heap.size w w' := by
  have HW := Lib.hid hw; clear hw
  have h1' : (2000 : Int) < (na : Int) := by omega
  clear h
  go_enter Tryd.func3, Tryd.ntmps3
  go_wp2_with fail
  refine (works_any _ HW.out).mono ?_; rintro e w1 ⟨rfl, hb1⟩
  go_wp2_with fail
  go_ret
  exact ⟨rfl, hb1⟩

set_option maxRecDepth 100000 in
set_option maxHeartbeats 16000000 in
theorem ltells_small (a : Option Addr) (c : Nat) (l : List UInt8) (w : World) (hw : EW w) (hn : l.length ≤ 2000) (ha : BytS w a l) :
    Calls Tryd.prog 3 #[.slice a l.length c] w fun e w' => e = .returned (.bool true) ∧ Below w.heap.size w w' := by
  have HW := Lib.hid hw; have HA := Lib.hid ha; clear hw ha
  obtain ⟨n, hn'⟩ : ∃ n, l.length = n := ⟨_, rfl⟩
  have HN := Lib.hid hn'
  have kC := HA.out.conv c
  rw [hn'] at hn kC ⊢
  clear hn'
  obtain ⟨S, hS⟩ : ∃ S : ByteArray, S = ⟨l.toArray⟩ := ⟨_, rfl⟩
  have HSS := Lib.hid hS
  have hsl : S.data.toList = l := by rw [hS]
  have HSL := Lib.hid hsl
  have hss : S.size = n := by rw [← len_eq, hsl, HN.out]
  have HSZ := Lib.hid hss
  rw [← hS] at kC
  have h1' : ¬ (2000 : Int) < (n : Int) := by omega
  have kS := Lib.run_convert_string_bytes (P := Tryd.prog) w 9 22 5 S (u := .string) Tryd.underlying9 Tryd.underlying22 Tryd.underlying5
  rw [hss] at kS
  have hBy := byts_bytes w S
  rw [hsl] at hBy
  have hB1 := Lib.bytesWorld_below w 5 S
  have HB1 := Lib.hid hB1
  have hfb := FB.bytes w S
  rw [hss] at hfb
  have FB1 := Lib.hid hfb
  have HBY := Lib.hid hBy
  have HS1 : Hid ((Lib.bytesWorld w 5 S).heap.size = w.heap.size + 1) := Lib.hid (Lib.bytesWorld_size w 5 S)
  clear hS hsl hBy hB1 hfb hss
  go_enter Tryd.func3, Tryd.ntmps3
  go_wp2_with fail
  clear kS kC
  generalize Lib.bytesWorld w 5 S = w1 at *
  have hLX := lex_any (some ⟨w.heap.size, 0, none⟩) (grownCap w n 0 5) l w1 (by rw [HN.out]; omega) HBY.out (HW.out.below HB1.out)
  rw [HN.out] at hLX
  unfold LexOut at hLX
  have hRX := fun w2 (hb : Below w.heap.size w w2) => rlex_any a c l w2 (by rw [HN.out]; omega) (HA.out.below hb)
  rw [HN.out] at hRX
  unfold RLexOut at hRX
  cases hA : lexS l with
  | error ee =>
    obtain ⟨p, er⟩ := ee
    rw [hA] at hLX hRX
    have her : ((er : Int) == 0) = false := by rcases lx_code hA with rfl | rfl <;> rfl
    have hern : ¬ (er : Int) = 0 := by rcases lx_code hA with rfl | rfl <;> decide
    have HLX := Lib.hid hLX; have HRX := Lib.hid hRX
    clear hLX hRX hA
    refine HLX.out.mono ?_; rintro e w2 ⟨rfl, hb2⟩
    go_wp2_with fail
    have HB2 := Lib.hid (below_next HB1.out hb2)
    refine (HRX.out w2 HB2.out).mono ?_; rintro e w3 ⟨rfl, hb3⟩
    have HB3 := Lib.hid (below_next HB2.out hb3)
    have FB3 := Lib.hid ((FB1.out.below hb2).below hb3)
    have HBY3 := Lib.hid ((HBY.out.below hb2).below hb3)
    clear hb2 hb3 HLX HRX
    go_wp2_with fail
    refine (same_nil _).mono ?_; rintro e w4 ⟨rfl, hb4⟩
    have HB45 := Lib.hid hb4
    have HB4 := Lib.hid (below_next HB3.out hb4)
    have FB4 := Lib.hid (FB3.out.below hb4)
    have kA := ((HBY3.out.below hb4).conv (grownCap w n 0 5))
    have kB := (HA.out.below HB4.out).conv c
    rw [HN.out] at kA kB
    rw [← HSS.out] at kA kB
    clear hb4
    go_wp2_with fail
    clear kA kB
    go_loopw [10] (fun i wr => ∃ k : Nat, k ≤ n ∧ i = .int .i64 k ∧ Below w.heap.size w wr ∧ Hid (FB wr w.heap.size n) ∧ Hid (∀ j, j ≠ w.heap.size → wr.heap[j]? = w4.heap[j]?)) (fun i _ => n - (intOf i).toNat)
    case atStart => exact ⟨0, Nat.zero_le _, rfl, HB4.out, FB4, Lib.hid (fun _ _ => rfl)⟩
    case round =>
      obtain ⟨k, hk, rfl, hbr, HF, HE⟩ := hrel
      by_cases hlt : k < n
      · obtain ⟨v0, hc0⟩ := HF.out.cell hlt
        have hf0 := HF.out.free hlt
        have hk0 : (0 : Int) ≤ (k : Int) := by omega
        have hk1 : (k : Int) < (n : Int) := by omega
        go_wp2_with fail
        go_roundw
        case rel => exact ⟨k + 1, by omega, by go_num, hbr.setCell (p := ⟨w.heap.size, k, none⟩) (Nat.le_refl _) _, Lib.hid (HF.out.put _), Lib.hid (fun j hj => (Below.heap_setCell _ _ _ _ hj).trans (HE.out j hj))⟩
        case measure => simp [intOf]; omega
      · have HBR := Lib.hid hbr
        clear hbr
        go_wp2_with fail
        refine (same_nil _).mono ?_; rintro e w5 ⟨rfl, hb5⟩
        go_wp2_with fail
        have HB5 := Lib.hid (below_next HBR.out hb5)
        refine (works_any _ (HW.out.below HB5.out)).mono ?_; rintro e w6 ⟨rfl, hb6⟩
        go_wp2_with fail
        go_ret
        exact ⟨rfl, below_next HB5.out hb6⟩
  | ok ts =>
    rw [hA] at hLX hRX
    have hne := lx_ne hA
    have htl := lx_many hA
    rw [HN.out] at htl
    have HNE := Lib.hid hne
    obtain ⟨nt, hnt⟩ : ∃ k, ts.length = k := ⟨_, rfl⟩
    have HNT := Lib.hid hnt
    rw [hnt] at htl
    have HLX := Lib.hid hLX; have HRX := Lib.hid hRX
    clear hLX hRX hA hne hnt
    refine HLX.out.mono ?_; rintro e w2 ⟨⟨v2, rfl, own2⟩, hb2⟩
    obtain ⟨bx, ox, cx, rfl, hbx, hx⟩ := own_toks own2 HNE.out
    rw [HS1.out] at hbx
    rw [HNT.out]
    have HX := Lib.hid hx
    clear own2 hx
    go_wp2_with fail
    have HB2 := Lib.hid (below_next HB1.out hb2)
    have hsz2 := HB2.out.size
    refine (HRX.out w2 HB2.out).mono ?_; rintro e w3 ⟨⟨v3, rfl, own3⟩, hb3⟩
    obtain ⟨by', oy, cy, rfl, hby, hy⟩ := own_toks own3 HNE.out
    rw [HNT.out]
    have HY := Lib.hid hy
    have hs2 : w.heap.size + 1 ≤ w2.heap.size := by have := hb2.size; rw [HS1.out] at this; exact this
    have HB34 := Lib.hid hb3
    have HB3 := Lib.hid (below_next HB2.out hb3)
    have FB3 := Lib.hid ((FB1.out.below hb2).below hb3)
    have HBY3 := Lib.hid ((HBY.out.below hb2).below hb3)
    clear hb2 hb3 HLX HRX own3 hy
    go_wp2_with fail
    refine (same_v bx ox cx by' oy cy nt ts _ HNT.out (by omega) (fun i t h => (HX.out i t h).below HB34.out) (fun i t h => (HY.out i t h))).mono ?_; rintro e w4 ⟨rfl, hb4⟩
    have HB45 := Lib.hid hb4
    have HB4 := Lib.hid (below_next HB3.out hb4)
    have FB4 := Lib.hid (FB3.out.below hb4)
    have kA := ((HBY3.out.below hb4).conv (grownCap w n 0 5))
    have kB := (HA.out.below HB4.out).conv c
    rw [HN.out] at kA kB
    rw [← HSS.out] at kA kB
    clear hb4
    go_wp2_with fail
    clear kA kB
    go_loopw [10] (fun i wr => ∃ k : Nat, k ≤ n ∧ i = .int .i64 k ∧ Below w.heap.size w wr ∧ Hid (FB wr w.heap.size n) ∧ Hid (∀ j, j ≠ w.heap.size → wr.heap[j]? = w4.heap[j]?)) (fun i _ => n - (intOf i).toNat)
    case atStart => exact ⟨0, Nat.zero_le _, rfl, HB4.out, FB4, Lib.hid (fun _ _ => rfl)⟩
    case round =>
      obtain ⟨k, hk, rfl, hbr, HF, HE⟩ := hrel
      by_cases hlt : k < n
      · obtain ⟨v0, hc0⟩ := HF.out.cell hlt
        have hf0 := HF.out.free hlt
        have hk0 : (0 : Int) ≤ (k : Int) := by omega
        have hk1 : (k : Int) < (n : Int) := by omega
        go_wp2_with fail
        go_roundw
        case rel => exact ⟨k + 1, by omega, by go_num, hbr.setCell (p := ⟨w.heap.size, k, none⟩) (Nat.le_refl _) _, Lib.hid (HF.out.put _), Lib.hid (fun j hj => (Below.heap_setCell _ _ _ _ hj).trans (HE.out j hj))⟩
        case measure => simp [intOf]; omega
      · have HBR := Lib.hid hbr
        clear hbr
        go_wp2_with fail
        refine (same_v bx ox cx by' oy cy nt ts wr HNT.out (by omega) (fun i t h => cells_other (((HX.out i t h).below HB34.out).below HB45.out) (HE.out bx (by omega))) (fun i t h => cells_other ((HY.out i t h).below HB45.out) (HE.out by' (by omega)))).mono ?_; rintro e w5 ⟨rfl, hb5⟩
        go_wp2_with fail
        have HB5 := Lib.hid (below_next HBR.out hb5)
        refine (works_any _ (HW.out.below HB5.out)).mono ?_; rintro e w6 ⟨rfl, hb6⟩
        go_wp2_with fail
        go_ret
        exact ⟨rfl, below_next HB5.out hb6⟩
end Go.Proofs.YtdbkchngpbahaaaDoor
