/- The walk over a block. By an AI agent. -/
import Derived.Test.YtkkeocnnecegbaaGreatDoorPwJ
namespace Go.Proofs.YtkkeocnnecegbaaGreatDoor
open Go.RowKit

theorem stmts_end {f d : Nat} {acc : List Item} {ts : List Tok} (h : isT [125] ts = true) : stmtsS (f + 1) d acc ts = .ok (acc, ts) := by unfold stmtsS; rw [if_pos h]
theorem stmts_one {f d : Nat} {acc : List Item} {ts : List Tok} (h : isT [125] ts = false) : stmtsS (f + 1) d acc ts = match stmtS f d ts with
    | .error e => .error e
    | .ok (x, ts1) => stmtsS f d (acc ++ [x]) ts1 := by
  conv => lhs; unfold stmtsS
  rw [if_neg (by rw [h]; simp)]
  cases stmtS f d ts <;> rfl
theorem stmts_zero {d : Nat} {acc : List Item} {ts : List Tok} : stmtsS 0 d acc ts = .error outE := by unfold stmtsS; rfl

set_option maxRecDepth 100000 in
set_option maxHeartbeats 8000000 in
theorem clo145_any (f B bx br X L R d a T : Nat) (ts : List Tok) (w : World) (hQ : AddQ bx br X L R 5 [] 0 a [] w) (hb : AddB bx br X L R) (hr : RD w R ts d) (hB : B ≤ X) (hT : ts.length ≤ T) (hT2 : T ≤ 100000)
    (ih : ∀ g, g < f → ∀ W ts', RD W R ts' d → ts'.length ≤ T → stmtS g d ts' ≠ .error outE → Calls Tryz.prog 146 #[.pointer (some ⟨R, 0, none⟩)] W (XOut W R d (stmtS g d ts')))
    (hne : stmtsS f d [] ts ≠ .error outE) :
    Calls Tryz.prog 145 #[.pointer (some ⟨br, 0, none⟩), .pointer (some ⟨bx, 0, none⟩)] w (OutB B w R d (stmtsS f d [] ts) fun l v w' => v = .tuple #[] ∧ AddQ bx br X L R 5 [] 0 a l w') := by
  have HQ := Lib.hid hQ; have HB := Lib.hid hb; have HR := Lib.hid hr; have IH := Lib.hid ih; have HNE := Lib.hid hne
  have htop : L ≤ w.heap.size := by obtain ⟨C, h⟩ := hQ.it; have := h.le; have := h.top; omega
  have hXL : X < L := by obtain ⟨C, h⟩ := hQ.it; exact h.lt
  clear hQ hb hr ih hne
  go_enter Tryz.func145, Tryz.ntmps145
  go_wp2_with fail
  go_loopg [] f (fun g wr => ∃ (acc : List Item) (ts' : List Tok), Hid (RD wr R ts' d ∧ KeepR B R w wr ∧ L ≤ wr.heap.size ∧ g ≤ f ∧ acc.length + ts'.length ≤ T) ∧ Hid (AddQ bx br X L R 5 [] 0 a acc wr) ∧ Hid (stmtsS g d acc ts' = stmtsS f d [] ts))
  case atStart => exact ⟨[], ts, Lib.hid ⟨HR.out, KeepR.refl _ _ _, htop, Nat.le_refl _, by simpa using hT⟩, HQ, Lib.hid rfl⟩
  case round =>
    obtain ⟨acc, ts', HA, HQA, HG⟩ := hrel
    cases gk with
    | zero =>
      exfalso
      have := HG.out
      rw [stmts_zero] at this
      exact HNE.out this.symm
    | succ gk =>
      obtain ⟨t', r', rfl⟩ := HA.out.1.fin.cons
      have c0 : wr.cell? ⟨br, 0, none⟩ = some (.pointer (some ⟨R, 0, none⟩)) := HQA.out.br.cell 0
      cases hi : isT [125] (t' :: r')
      · have HI := Lib.hid hi; clear hi
        have HG2 : Hid ((match stmtS gk d (t' :: r') with
          | .error e => .error e
          | .ok (x, ts1) => stmtsS gk d (acc ++ [x]) ts1) = stmtsS f d [] ts) := Lib.hid (by rw [← HG.out, stmts_one HI.out])
        clear HG
        go_wp2_with fail
        refine (is_any R t' r' d [125] _ HA.out.1).mono ?_; rintro e w1 ⟨rfl, hb1⟩; rw [HI.out]
        have HR1 := Lib.hid (HA.out.1.below hb1 HA.out.1.lt.1)
        have HQ1 := Lib.hid (HQA.out.keep HB.out (.of hb1))
        have HK1 : Hid (KeepR B R w w1) := Lib.hid (HA.out.2.1.below hb1 (by have := HA.out.2.2.1; omega))
        have hs1 : L ≤ w1.heap.size := Nat.le_trans HA.out.2.2.1 hb1.size
        clear hb1 c0 HQA
        have cx : w1.cell? ⟨bx, 0, none⟩ = some (.pointer (some ⟨X, 0, none⟩)) := HQ1.out.bx.cell 0
        have cr : w1.cell? ⟨br, 0, none⟩ = some (.pointer (some ⟨R, 0, none⟩)) := HQ1.out.br.cell 0
        have lx := HQ1.out.bx.lt
        have lr := HQ1.out.br.lt
        go_wp2_with fail
        have CALL := Lib.hid (fun W hW => IH.out gk (by have := HA.out.2.2.2.1; omega) W (t' :: r') hW (by have := HA.out.2.2.2.2; omega) (fun hc => HNE.out (by rw [← HG2.out, hc])))
        cases hW : stmtS gk d (t' :: r') with
        | error q =>
          obtain ⟨p, er⟩ := q
          have HC := Lib.hid (fun W hW' => (hW ▸ CALL.out W hW').mono (fun _ _ => XOut.no))
          have HF : Hid (stmtsS f d [] ts = .error (p, er)) := Lib.hid (by rw [← HG2.out, hW])
          clear hW CALL
          refine wp_region_held_drew (S := fun w' => w'.cell? ⟨bx, 0, none⟩ = some (.pointer (some ⟨X, 0, none⟩)) ∧ w'.cell? ⟨br, 0, none⟩ = some (.pointer (some ⟨R, 0, none⟩))) (by kernel_rfl) ⟨cx, cr⟩ (fun hS => ?_)
          refine wpAnyH_take (i := 0) (v := .pointer (some ⟨X, 0, none⟩)) rfl (by kernel_rfl) (by kernel_rfl) (by kernel_rfl) (fun _ _ _ h => h) (Or.inl ⟨by rfl, ?_⟩) hS ?_
          · intro W hW
            go_simp
          simp only [Act.put, List.setIfInBounds_toArray]
          refine wpAnyH_take (i := 1) (v := .pointer (some ⟨R, 0, none⟩)) rfl (by kernel_rfl) (by kernel_rfl) (by kernel_rfl) (fun _ _ _ h => h) (Or.inl ⟨by rfl, ?_⟩) hS ?_
          · intro W hW
            go_simp
          simp only [Act.put]
          refine wpAnyH_ready (rs := [2]) (by kernel_rfl) (by simp) ?_
          refine AllReadyH.cons rfl (fun K hK => ?_) .nil
          go_simp
          refine (HC.out _ HR1.out.drew).mono ?_
          rintro e w2 ⟨rfl, hk2⟩
          exact ⟨rfl, OutB.err HF.out (HK1.out.trans (KeepR.drewL hk2) (by show B ≤ w1.heap.size; omega))⟩
        | ok q =>
          obtain ⟨x, ts1⟩ := q
          have HC := Lib.hid (fun W hW' => (hW ▸ CALL.out W hW').mono (fun _ _ => XOut.yes))
          have HG3 : Hid (stmtsS gk d (acc ++ [x]) ts1 = stmtsS f d [] ts) := Lib.hid (by rw [← HG2.out, hW])
          have HLN := Lib.hid ((stmt_ok gk).2.2.2.2 _ _ _ _ HR1.out.fin hW)
          clear hW CALL HG2
          obtain ⟨hbx, hbr, C, hit⟩ := HQ1.out
          have HIT := Lib.hid (hit.grow hit.top (Nat.le_refl _)).drew
          have HBX : Hid (Blk w1.drew bx 93 #[.pointer (some ⟨X, 0, none⟩)]) := Lib.hid hbx
          have HBR : Hid (Blk w1.drew br 90 #[.pointer (some ⟨R, 0, none⟩)]) := Lib.hid hbr
          have hacc : acc.length ≤ 100000 := by have := HA.out.2.2.2.2; omega
          clear hbx hbr hit
          go_region_held3 (fun w' => w'.cell? ⟨bx, 0, none⟩ = some (.pointer (some ⟨X, 0, none⟩)) ∧ w'.cell? ⟨br, 0, none⟩ = some (.pointer (some ⟨R, 0, none⟩)))
            (first | go_keep)
            (first
              | (go_at_call 146; refine (HC.out _ HR1.out.drew).mono ?_; rintro e w2 ⟨p, rfl, hi1, hr1, hk1⟩; have b1 := HBX.out.kept hk1 lx HB.out.xR; have b2 := HBR.out.kept hk1 lr HB.out.rR; have c1 : w2.cell? ⟨bx, 0, none⟩ = some (.pointer (some ⟨X, 0, none⟩)) := b1.cell 0; have c2 : w2.cell? ⟨br, 0, none⟩ = some (.pointer (some ⟨R, 0, none⟩)) := b2.cell 0; have l1 := b1.lt; have l2 := b2.lt; have BX1 := Lib.hid b1; have BR1 := Lib.hid b2; have IT1 := Lib.hid (HIT.out.keep hk1 (Nat.le_refl _) HB.out.RX); have HI1 := Lib.hid hi1; have HR2 := Lib.hid hr1; have HK2 := Lib.hid hk1; clear b1 b2 hi1 hr1 hk1)
              | (go_at_call 53; refine (add_any X L w1.drew.heap.size w2.heap.size 1 5 a [] 0 acc [x] [p] _ (IT1.out.alloc _) (Blk.new w2 93 _) (KidsAt.one (HI1.out.alloc _)) rfl (by omega) (by omega)).mono ?_; rintro e w3 ⟨rfl, it2, k2⟩; have b1 := (BX1.out.alloc (.cells #[.pointer (some ⟨p, 0, none⟩)] 93)).kept k2 HB.out.x HB.out.xX; have b2 := (BR1.out.alloc (.cells #[.pointer (some ⟨p, 0, none⟩)] 93)).kept k2 HB.out.r HB.out.rX; have d1 : w3.cell? ⟨bx, 0, none⟩ = some (.pointer (some ⟨X, 0, none⟩)) := b1.cell 0; have d2 : w3.cell? ⟨br, 0, none⟩ = some (.pointer (some ⟨R, 0, none⟩)) := b2.cell 0; have BX2 := Lib.hid b1; have BR2 := Lib.hid b2; have IT2 := Lib.hid it2; have K2 := Lib.hid k2; clear b1 b2 it2 k2))
          go_wp2_with fail
          have hs2 : w1.heap.size ≤ w2.heap.size := HK2.out.size
          have KK1 := HK1.out.trans (KeepR.drewL HK2.out) (by show B ≤ w1.heap.size; omega)
          have KK2 := Lib.hid ((KK1.alloc (by omega) (.cells #[.pointer (some ⟨p, 0, none⟩)] 93)).trans (K2.out.item (B := B) hB hXL) (Nat.le_refl _))
          go_roundg gk
          case measure => omega
          case rel => exact ⟨acc ++ [x], ts1, Lib.hid ⟨(HR2.out.alloc _).item K2.out HB.out.RX hXL, KK2.out, by have := IT2.out.le; omega, by have := HA.out.2.2.2.1; omega, by have := HA.out.2.2.2.2; have := HLN.out.2; simp only [List.length_cons, List.length_append, List.length_nil] at *; omega⟩, Lib.hid ⟨BX2.out, BR2.out, _, IT2.out⟩, HG3⟩
      · have HI := Lib.hid hi; clear hi
        have HG2 : Hid (stmtsS f d [] ts = .ok (acc, t' :: r')) := Lib.hid (by rw [← HG.out, stmts_end HI.out])
        clear HG
        go_wp2_with fail
        refine (is_any R t' r' d [125] _ HA.out.1).mono ?_; rintro e w1 ⟨rfl, hb1⟩; rw [HI.out]
        have HR1 := Lib.hid (HA.out.1.below hb1 HA.out.1.lt.1)
        have HQ1 := Lib.hid (HQA.out.keep HB.out (.of hb1))
        have HK1 : Hid (KeepR B R w w1) := Lib.hid (HA.out.2.1.below hb1 (by have := HA.out.2.2.1; omega))
        clear hb1 c0 HQA
        go_wp2_with fail
        go_end0
        exact OutB.ok HG2.out HK1.out HR1.out ⟨rfl, HQ1.out⟩

theorem enter145 (cap : Array Value) (W : World) : (callFunc 145 cap).run Tryz.prog W = .ok (.enter 145 cap) W := by kernel_rfl
theorem openT_deep {x : List UInt8} {d : Nat} {ts ts1 : List Tok} (h : openT x d ts = .ok ts1) : d < 64 ∧ takeT x ts = .ok ts1 := by
  unfold openT at h
  split at h
  · cases h
  · rename_i hne
    refine ⟨?_, h⟩
    unfold takeT at h
    split at h
    · rename_i his
      rw [his] at hne
      simpa using hne
    · cases h

set_option maxRecDepth 100000 in
set_option maxHeartbeats 8000000 in
theorem block_step (f R d T : Nat) (ts : List Tok) (w : World) (h : RD w R ts d) (hd : d ≤ 64) (hT : ts.length ≤ T) (hT2 : T ≤ 100000)
    (ih : ∀ g, g < f → ∀ W ts', RD W R ts' (d + 1) → d + 1 ≤ 64 → ts'.length ≤ T → stmtS g (d + 1) ts' ≠ .error outE → Calls Tryz.prog 146 #[.pointer (some ⟨R, 0, none⟩)] W (XOut W R (d + 1) (stmtS g (d + 1) ts')))
    (hne : blockS (f + 1) d ts ≠ .error outE) : Calls Tryz.prog 95 #[.pointer (some ⟨R, 0, none⟩)] w (XOut w R d (blockS (f + 1) d ts)) := by
  have hU : blockS (f + 1) d ts = match withinR [123] [125] d (stmtsS f (d + 1) []) ts with
    | .error e => .error e
    | .ok (l, r) => .ok (.mk 5 [] 0 (nowAt ts) l, r) := by
    conv => lhs; unfold blockS
    unfold withinR
    cases openT [123] d ts with
    | error e => rfl
    | ok ts1 =>
      simp only []
      cases stmtsS f (d + 1) [] ts1 with
      | error e => rfl
      | ok v =>
        obtain ⟨l, r⟩ := v
        simp only []
        rw [if_neg (by simp)]
        cases takeT [125] r <;> rfl
  have H := Lib.hid h; have IH := Lib.hid ih; have HNE := Lib.hid hne; have HU := Lib.hid hU
  clear h ih hne hU
  go_enter Tryz.func95, Tryz.ntmps95
  go_wp2_with fail
  refine (node_any R d 5 ts _ (H.out.alloc _)).mono ?_; rintro e w1 ⟨X, rfl, hX, hb1, hk1⟩
  have hRw := H.out.lt.1
  have hXw : w.heap.size < X := by simp at hX; omega
  have HBX := Lib.hid hb1; have HK1 := Lib.hid hk1
  have hbr : Blk w1 w.heap.size 90 #[.pointer (some ⟨R, 0, none⟩)] := (Blk.new w 90 _).below hk1
  have HBR := Lib.hid hbr
  have c1 : w1.cell? ⟨w.heap.size, 0, none⟩ = some (.pointer (some ⟨R, 0, none⟩)) := hbr.cell 0
  have l1 := hbr.lt
  have lX := HBX.out.lt
  clear hX hb1 hk1 hbr
  have n1 : ¬ w1.heap.size = X := by omega
  have n2 : ¬ w.heap.size = X := by omega
  have HR1 := Lib.hid (((H.out.alloc (.cells #[.pointer (some ⟨R, 0, none⟩)] 90)).below HK1.out (by simp; omega)).alloc (.cells #[.pointer (some ⟨X, 0, none⟩)] 93))
  have HK2 := Lib.hid (((((KeepR.refl _ R w).alloc (Nat.le_refl _) (.cells #[.pointer (some ⟨R, 0, none⟩)] 90)).below HK1.out (by simp))).alloc (by omega) (.cells #[.pointer (some ⟨X, 0, none⟩)] 93))
  have HQ : Hid (AddQ w1.heap.size w.heap.size X (w1.heap.size + 1) R 5 [] 0 (nowAt ts) [] (w1.alloc (.cells #[.pointer (some ⟨X, 0, none⟩)] 93))) := Lib.hid ⟨Blk.new w1 93 _, HBR.out.alloc _, _, OpenI.new (HBX.out.alloc _) (show X < w1.heap.size + 1 by omega) (by simp)⟩
  have HB : Hid (AddB w1.heap.size w.heap.size X (w1.heap.size + 1) R) := Lib.hid ⟨by omega, by omega, n1, n2, by omega, by omega, by omega⟩
  have hs2 : w.heap.size ≤ (w1.alloc (.cells #[.pointer (some ⟨X, 0, none⟩)] 93)).heap.size := by simp; omega
  go_wp2_with fail
  refine (within_any (α := List Item) w.heap.size R d 145 [123] [125] #[.pointer (some ⟨w.heap.size, 0, none⟩), .pointer (some ⟨w1.heap.size, 0, none⟩)] ts _ (stmtsS f (d + 1) []) (fun l _ w' => AddQ w1.heap.size w.heap.size X (w1.heap.size + 1) R 5 [] 0 (nowAt ts) l w') HR1.out hd hs2 (enter145 _) ?hF ?hP).mono ?_
  case hF =>
    intro ts1 w5 hop hr5 hk5
    obtain ⟨hdd, htk⟩ := openT_deep hop
    have hln := takeT_ok HR1.out.fin htk
    have hne1 : stmtsS f (d + 1) [] ts1 ≠ .error outE := by
      intro hc
      apply HNE.out
      rw [HU.out]; unfold withinR; rw [hop]; simp only []; rw [hc]
    exact clo145_any f w.heap.size _ _ X (w1.heap.size + 1) R (d + 1) (nowAt ts) T ts1 w5 (HQ.out.keep HB.out hk5) HB.out hr5 (by omega) (by omega) hT2 (fun g hg W ts' hW hl hn => IH.out g hg W ts' hW (by omega) hl hn) hne1
  case hP => intro a wa wb ha hk; exact ha.keep HB.out hk
  rintro e w5 ⟨hk5, ho⟩
  have HK5 := Lib.hid (HK2.out.trans hk5 (Nat.le_refl _))
  cases hW : withinR [123] [125] d (stmtsS f (d + 1) []) ts with
  | error q =>
    obtain ⟨p, er⟩ := q
    rw [hW] at ho
    subst ho
    refine ⟨rfl, OutB.err ?_ HK5.out⟩
    rw [HU.out, hW]
  | ok q =>
    obtain ⟨l, r2⟩ := q
    rw [hW] at ho
    obtain ⟨hr5, v, rfl, hq5⟩ := ho
    have HR5 := Lib.hid hr5
    have e1 : w5.cell? ⟨w1.heap.size, 0, none⟩ = some (.pointer (some ⟨X, 0, none⟩)) := hq5.bx.cell 0
    have HQ5 := Lib.hid hq5
    have HW := Lib.hid hW
    clear hW hr5 hk5 hq5 c1
    go_wp2_with fail
    go_ret
    obtain ⟨C, hit⟩ := HQ5.out.it
    refine OutB.ok (x := .mk 5 [] 0 (nowAt ts) l) (ts := r2) ?_ HK5.out HR5.out ⟨X, rfl, hit.close.mono (fun j hj _ => by omega)⟩
    rw [HU.out, HW.out]
end Go.Proofs.YtkkeocnnecegbaaGreatDoor
