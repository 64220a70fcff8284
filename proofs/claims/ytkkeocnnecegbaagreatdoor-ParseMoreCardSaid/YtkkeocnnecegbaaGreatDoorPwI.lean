/- The walk over binary; expressions. By an AI agent. -/
import Derived.Test.YtkkeocnnecegbaaGreatDoorPwH
namespace Go.Proofs.YtkkeocnnecegbaaGreatDoor
open Go.RowKit

set_option maxRecDepth 100000 in
set_option maxHeartbeats 8000000 in
theorem bin_low (f R d of : Nat) (ts : List Tok) (w : World) (h : RD w R ts d) (ho : of ≤ 3)
    (ih : ∀ g, g ≤ f → ∀ W ts', RD W R ts' d → binS g (of + 1) d ts' ≠ .error outE → Calls Tryz.prog 230 #[.pointer (some ⟨R, 0, none⟩), .int .i64 ((of : Int) + 1)] W (XOut W R d (binS g (of + 1) d ts')))
    (hne : binS (f + 1) of d ts ≠ .error outE) : Calls Tryz.prog 230 #[.pointer (some ⟨R, 0, none⟩), .int .i64 of] w (XOut w R d (binS (f + 1) of d ts)) := by
  obtain ⟨t, r, rfl⟩ := h.fin.cons
  have hU : binS (f + 1) of d (t :: r) = match binS f (of + 1) d (t :: r) with
    | .error e => .error e
    | .ok (x, ts1) => loopS f of d t.at' x ts1 := by
    conv => lhs; unfold binS
    rw [if_neg (by omega)]; rfl
  have H := Lib.hid h; have HU := Lib.hid hU; have IH := Lib.hid ih; have HNE := Lib.hid hne
  clear h hU ih hne
  have f3 := fld3
  have ho3 : ¬ (3 : Int) < (of : Int) := by omega
  have hRw := H.out.lt.1
  go_enter Tryz.func230, Tryz.ntmps230
  go_wp2_with fail
  refine (now_any R t r d _ H.out).mono ?_; rintro e w1 ⟨rfl, hb1⟩; unfold tokA
  have HR1 := Lib.hid (H.out.below hb1 hRw)
  have HK1 := Lib.hid (KeepR.of (R := R) hb1)
  clear hb1
  go_wp2_with fail
  refine (IH.out f (Nat.le_refl _) w1 (t :: r) HR1.out ?_).mono ?_
  · intro hc; apply HNE.out; rw [HU.out, hc]
  rintro e w2 ⟨hk2, ho2⟩
  have HK2 := Lib.hid (HK1.out.trans hk2 HK1.out.size)
  cases hW : binS f (of + 1) d (t :: r) with
  | error q =>
    obtain ⟨p, er⟩ := q
    rw [hW] at ho2
    subst ho2
    refine ⟨rfl, OutB.err ?_ HK2.out⟩
    rw [HU.out, hW]
  | ok q =>
    obtain ⟨x0, ts1⟩ := q
    rw [hW] at ho2
    obtain ⟨hr2, v, rfl, p0, rfl, hi2⟩ := ho2
    have HR2 := Lib.hid hr2
    have HI2 := Lib.hid (hi2.mono (fun j hj _ => by have := HK1.out.size; show w.heap.size ≤ j; omega))
    have HU2 : Hid (binS (f + 1) of d (t :: r) = loopS f of d t.at' x0 ts1) := Lib.hid (by rw [HU.out, hW])
    clear hW hr2 hk2 hi2 HU
    go_wp2_with fail
    refine (mark_any R d of ts1 _ HR2.out).mono ?_; rintro e w3 ⟨rfl, hb3⟩
    have HR3 := Lib.hid (HR2.out.below hb3 HR2.out.lt.1)
    have HI3 := Lib.hid (HI2.out.keep (fun j _ hl => hb3.block j hl))
    have HK3 := Lib.hid (HK2.out.below hb3 HK2.out.size)
    clear hb3 HR2 HI2 HK2
    go_wp2_with fail
    go_loopg [6, 7] f (fun g px vn wr => ∃ (p : Nat) (x : Item) (ts' : List Tok), px = .pointer (some ⟨p, 0, none⟩) ∧ vn = .int .i64 (markOf of ts') ∧ Hid (RD wr R ts' d ∧ KeepR w.heap.size R w wr ∧ g ≤ f) ∧ Hid (ItemAt wr (fun j => w.heap.size ≤ j) p x) ∧ Hid (loopS g of d t.at' x ts' = binS (f + 1) of d (t :: r)))
    case atStart => exact ⟨p0, x0, ts1, rfl, rfl, Lib.hid ⟨HR3.out, HK3.out, Nat.le_refl _⟩, HI3, Lib.hid HU2.out.symm⟩
    case round =>
      obtain ⟨p, x, ts', rfl, rfl, HA, HX, HG⟩ := hrel
      cases gk with
      | zero =>
        exfalso
        have := HG.out
        unfold loopS at this
        exact HNE.out this.symm
      | succ gk =>
        by_cases hm : markOf of ts' = 0
        · have hm0 : ¬ (0 : Int) < (markOf of ts' : Int) := by omega
          have HF : Hid (binS (f + 1) of d (t :: r) = .ok (x, ts')) := Lib.hid (by
            rw [← HG.out]; unfold loopS; rw [if_pos hm])
          clear hm
          go_wp2_with fail
          go_ret
          exact OutB.ok HF.out HA.out.2.1 HA.out.1 ⟨p, rfl, HX.out⟩
        · have hm0 : (0 : Int) < (markOf of ts' : Int) := by omega
          obtain ⟨t', r', hts⟩ := HA.out.1.fin.cons
          have hk5 : t'.kind ≠ 5 := by
            have := markFrom_is (of := of) (ts := ts') binMarks 1 hm
            rw [hts] at this; exact this
          have HTS := Lib.hid hts
          have HG2 : Hid ((match binS gk (of + 1) d r' with
            | .error e => .error e
            | .ok (y, ts1) => loopS gk of d t.at' (.mk 21 [] (markOf of ts') t.at' [x, y]) ts1) = binS (f + 1) of d (t :: r)) := Lib.hid (by
            rw [← HG.out]; conv => rhs; unfold loopS
            rw [if_neg hm, hts]
            show (match binS gk (of + 1) d r' with | .error e => _ | .ok (y, ts1) => _) = _
            rfl)
          have HK5 := Lib.hid hk5
          clear hts hm hk5
          generalize hMN : markOf of ts' = mn at *
          clear hMN
          go_wp2_with fail
          refine (pass_yes R t' r' d _ (by rw [← HTS.out]; exact HA.out.1) HK5.out).mono ?_; rintro e w4 ⟨rfl, hr4, hk4⟩; unfold tokA
          have HR4 := Lib.hid (hr4.alloc (.cells #[.int .u8 (21 : Nat), .string ⟨([] : List UInt8).toArray⟩, .int .i64 mn, .int .i64 t.at', .slice none 0 0, .slice none 0 0] 160))
          have HK4 := Lib.hid ((HA.out.2.1.trans hk4 HA.out.2.1.size))
          have hs4 : w.heap.size ≤ w4.heap.size := HK4.out.size
          have HX4 := Lib.hid ((HX.out.mono (G := fun j => w.heap.size ≤ j ∧ j < wr.heap.size) (fun j hj hl => ⟨hj, hl⟩)).keep (fun j hj hl => hk4.block j hl (by omega)))
          have hsr := hk4.size
          have HY4 := Lib.hid (Blk.new w4 160 #[.int .u8 (21 : Nat), .string ⟨([] : List UInt8).toArray⟩, .int .i64 mn, .int .i64 t.at', .slice none 0 0, .slice none 0 0])
          have HK4a := Lib.hid (HK4.out.alloc hs4 (.cells #[.int .u8 (21 : Nat), .string ⟨([] : List UInt8).toArray⟩, .int .i64 mn, .int .i64 t.at', .slice none 0 0, .slice none 0 0] 160))
          have HX4a := Lib.hid (HX4.out.alloc (.cells #[.int .u8 (21 : Nat), .string ⟨([] : List UInt8).toArray⟩, .int .i64 mn, .int .i64 t.at', .slice none 0 0, .slice none 0 0] 160))
          clear hr4 hk4 HX4 HK4
          go_wp2_with fail
          refine (IH.out gk (by have := HA.out.2.2; omega) _ r' HR4.out ?_).mono ?_
          · intro hc; apply HNE.out; rw [← HG2.out, hc]
          rintro e w5 ⟨hk5, ho5⟩
          have hsz : (w4.alloc (.cells #[.int .u8 (21 : Nat), .string ⟨([] : List UInt8).toArray⟩, .int .i64 mn, .int .i64 t.at', .slice none 0 0, .slice none 0 0] 160)).heap.size = w4.heap.size + 1 := by simp
          have HK5' := Lib.hid (HK4a.out.trans hk5 HK4a.out.size)
          have hs5 : w.heap.size ≤ w5.heap.size := HK5'.out.size
          cases hW : binS gk (of + 1) d r' with
          | error q =>
            obtain ⟨pp, er⟩ := q
            rw [hW] at ho5
            subst ho5
            refine ⟨rfl, OutB.err ?_ HK5'.out⟩
            rw [← HG2.out, hW]
          | ok q =>
            obtain ⟨y, ts2⟩ := q
            rw [hW] at ho5
            obtain ⟨hr5, v, rfl, q, rfl, hi5⟩ := ho5
            have HG3 : Hid (loopS gk of d t.at' (.mk 21 [] mn t.at' [x, y]) ts2 = binS (f + 1) of d (t :: r)) := Lib.hid (by rw [← HG2.out, hW])
            have hX5 := HY4.out.kept hk5 (by rw [hsz]; omega) (by omega)
            have hx5 := HX4a.out.keep (w' := w5) (fun j hj hl => hk5.block j hl (by omega))
            have HS5 : Hid (w4.heap.size + 1 ≤ w5.heap.size) := Lib.hid (by rw [← hsz]; exact hk5.size)
            have HX5 := Lib.hid (hX5.alloc (.cells #[.pointer (some ⟨p, 0, none⟩), .pointer (some ⟨q, 0, none⟩)] 93))
            have Hx5 := Lib.hid (hx5.alloc (.cells #[.pointer (some ⟨p, 0, none⟩), .pointer (some ⟨q, 0, none⟩)] 93))
            have Hy5 := Lib.hid ((hi5.mono (G := fun j => w4.heap.size < j) (fun j hj _ => by rw [hsz] at hj; omega)).alloc (.cells #[.pointer (some ⟨p, 0, none⟩), .pointer (some ⟨q, 0, none⟩)] 93))
            have HR5 := Lib.hid (hr5.alloc (.cells #[.pointer (some ⟨p, 0, none⟩), .pointer (some ⟨q, 0, none⟩)] 93))
            have HK5a := Lib.hid (HK5'.out.alloc hs5 (.cells #[.pointer (some ⟨p, 0, none⟩), .pointer (some ⟨q, 0, none⟩)] 93))
            clear hr5 hk5 hi5 hW hX5 hx5 hsz HG2
            go_wp2_with fail
            refine (add_raw w4.heap.size w.heap.size w5.heap.size 2 0 _ _ _ _ _ _ [] [p, q] _ HX5.out (World.ownsRow_nil _ _ _ _) (by simp [Value.ownBlock]) (by simp; omega) (Blk.new w5 93 _) rfl (by omega) (by omega)).mono ?_
            rintro e w6 ⟨rfl, v', g1, g2, g3, g4, g5, g6, g7, g8⟩
            have hsa : w5.heap.size < (w5.alloc (.cells #[.pointer (some ⟨p, 0, none⟩), .pointer (some ⟨q, 0, none⟩)] 93)).heap.size := by simp
            have hS5 := HS5.out
            have far : ∀ j, j < (w5.alloc (.cells #[.pointer (some ⟨p, 0, none⟩), .pointer (some ⟨q, 0, none⟩)] 93)).heap.size → j ≠ w4.heap.size → w6.heap[j]? = (w5.alloc (.cells #[.pointer (some ⟨p, 0, none⟩), .pointer (some ⟨q, 0, none⟩)] 93)).heap[j]? := fun j h1 h2 => g8 j h1 h2 (by simp [Value.ownBlock])
            have HX6 : Hid (ItemAt w6 (fun j => w.heap.size ≤ j) w4.heap.size (.mk 21 [] mn t.at' [x, y])) := Lib.hid (by
              refine ⟨hs4, v', [p, q], g1, ⟨_, g2⟩, fun k hk => (g2.lt k hk).1, ?_⟩
              unfold KidsAt
              refine ⟨(Hx5.out.keep (fun j hj hl => far j hl (by omega))).mono (fun j hj _ => hj.1), KidsAt.one ((Hy5.out.keep (fun j hj hl => far j hl (by omega))).mono (fun j hj _ => by omega))⟩)
            have HR6 := Lib.hid (HR5.out.same (w' := w6) (fun k hk => far k (by omega) (by omega)))
            have HK6 : Hid (KeepR w.heap.size R w w6) := Lib.hid (HK5a.out.trans ⟨g4.symm, g5.symm, g6.symm, g7, fun k hk _ => far k (by omega) (by omega)⟩ (Nat.le_refl _))
            clear g1 g2 g3 g4 g5 g6 g7 g8 far hsa HX5 Hx5 Hy5 HR5 HK5a HY4 HX4a HK4a HK5'
            go_wp2_with fail
            refine (mark_any R d of ts2 _ HR6.out).mono ?_; rintro e w7 ⟨rfl, hb7⟩
            have HR7 := Lib.hid (HR6.out.below hb7 HR6.out.lt.1)
            have HX7 := Lib.hid (HX6.out.keep (fun j _ hl => hb7.block j hl))
            have HK7 := Lib.hid (HK6.out.below hb7 HK6.out.size)
            clear hb7 HR6 HX6 HK6
            go_wp2_with fail
            go_roundg gk
            case measure => omega
            case rel => exact ⟨w4.heap.size, _, ts2, rfl, rfl, Lib.hid ⟨HR7.out, HK7.out, by have := HA.out.2.2; omega⟩, HX7, HG3⟩

set_option maxRecDepth 100000 in
set_option maxHeartbeats 2000000 in
theorem bin_high (f R d of : Nat) (ts : List Tok) (w : World) (_h : RD w R ts d) (ho : 3 < of)
    (ih : unS f d ts ≠ .error outE → Calls Tryz.prog 239 #[.pointer (some ⟨R, 0, none⟩)] w (XOut w R d (unS f d ts)))
    (hne : binS (f + 1) of d ts ≠ .error outE) : Calls Tryz.prog 230 #[.pointer (some ⟨R, 0, none⟩), .int .i64 of] w (XOut w R d (binS (f + 1) of d ts)) := by
  have hU : binS (f + 1) of d ts = unS f d ts := by conv => lhs; unfold binS
                                                    rw [if_pos ho]
  rw [hU] at hne ⊢
  have IH := Lib.hid (ih hne)
  have ho3 : (3 : Int) < (of : Int) := by omega
  clear hU hne ih _h ho
  go_enter Tryz.func230, Tryz.ntmps230
  go_wp2_with fail
  refine IH.out.mono ?_
  rintro e w2 ⟨hk2, ho2⟩
  cases hW : unS f d ts with
  | error q =>
    obtain ⟨p, er⟩ := q
    rw [hW] at ho2
    subst ho2
    exact ⟨rfl, OutB.err rfl hk2⟩
  | ok q =>
    obtain ⟨x, ts1⟩ := q
    rw [hW] at ho2
    obtain ⟨hr2, v, rfl, p0, rfl, hi2⟩ := ho2
    have HR2 := Lib.hid hr2
    have HI2 := Lib.hid hi2
    have HK2 := Lib.hid hk2
    have HW := Lib.hid hW
    clear hW hr2 hk2 hi2
    go_wp2_with fail
    go_ret
    exact OutB.ok HW.out HK2.out HR2.out ⟨p0, rfl, HI2.out⟩

/-- EXPRESSIONS. -/
theorem expr_all : ∀ (N R : Nat),
    (∀ f, f ≤ N → ∀ d of ts w, RD w R ts d → d ≤ 64 → binS f of d ts ≠ .error outE → Calls Tryz.prog 230 #[.pointer (some ⟨R, 0, none⟩), .int .i64 (of : Nat)] w (XOut w R d (binS f of d ts))) ∧
    (∀ f, f ≤ N → ∀ d ts w, RD w R ts d → d ≤ 64 → unS f d ts ≠ .error outE → Calls Tryz.prog 239 #[.pointer (some ⟨R, 0, none⟩)] w (XOut w R d (unS f d ts))) ∧
    (∀ f, f ≤ N → ∀ d ts w, RD w R ts d → d ≤ 64 → facS f d ts ≠ .error outE → Calls Tryz.prog 246 #[.pointer (some ⟨R, 0, none⟩)] w (XOut w R d (facS f d ts)))
  | 0, R => by
    refine ⟨fun f hf d of ts w _ _ hne => ?_, fun f hf d ts w _ _ hne => ?_, fun f hf d ts w _ _ hne => ?_⟩
    · obtain rfl : f = 0 := by omega
      exact absurd (by unfold binS; rfl) hne
    · obtain rfl : f = 0 := by omega
      exact absurd (by unfold unS; rfl) hne
    · obtain rfl : f = 0 := by omega
      exact absurd (by unfold facS; rfl) hne
  | N + 1, R => by
    obtain ⟨hb, hu, hfa⟩ := expr_all N R
    refine ⟨fun f hf d of ts w hr hd hne => ?_, fun f hf d ts w hr hd hne => ?_, fun f hf d ts w hr hd hne => ?_⟩
    · cases f with
      | zero => exact absurd (by unfold binS; rfl) hne
      | succ f =>
        by_cases ho : 3 < of
        · exact bin_high f R d of ts w hr ho (fun h => hu f (by omega) d ts w hr hd h) hne
        · exact bin_low f R d of ts w hr (by omega) (fun g hg W ts' hW hn => by
            have := hb g (by omega) d (of + 1) ts' W hW hd hn
            rw [show (((of + 1 : Nat)) : Int) = (of : Int) + 1 by simp] at this
            exact this) hne
    · cases f with
      | zero => exact absurd (by unfold unS; rfl) hne
      | succ f =>
        cases h1 : isT [45] ts
        · cases h2 : isT [33] ts
          · exact un_fac f R d ts w hr hd h1 h2 (fun W hW hn => hfa f (by omega) d ts W hW hd hn) hne
          · exact un_bang f R d ts w hr hd h1 h2 (fun W ts' hW hd' hn => hu f (by omega) (d + 1) ts' W hW hd' hn) hne
        · exact un_minus f R d ts w hr hd h1 (fun W ts' hW hd' hn => hu f (by omega) (d + 1) ts' W hW hd' hn) hne
    · cases f with
      | zero => exact absurd (by unfold facS; rfl) hne
      | succ f =>
        by_cases h3 : nowKind ts = 3
        · exact fac_num f R d ts w hr h3
        · by_cases h1 : nowKind ts = 1
          · cases h2 : isT [91] ts.tail
            · exact fac_name_no f R d ts w hr h1 h2
            · exact fac_name_yes f R d ts w hr h1 h2 hd (fun W ts' hW hd' hn => hb f (by omega) (d + 1) 1 ts' W hW hd' hn) hne
          · exact fac_par f R d ts w hr h3 h1 hd (fun W ts' hW hd' hn => hb f (by omega) (d + 1) 1 ts' W hW hd' hn) hne
theorem bin_any (f R d : Nat) (ts : List Tok) (w : World) (hr : RD w R ts d) (hd : d ≤ 64) (hne : binS f 1 d ts ≠ .error outE) : Calls Tryz.prog 210 #[.pointer (some ⟨R, 0, none⟩)] w (XOut w R d (binS f 1 d ts)) :=
  expr_of ((expr_all f R).1 f (Nat.le_refl _) d 1 ts w hr hd hne)
end Go.Proofs.YtkkeocnnecegbaaGreatDoor
