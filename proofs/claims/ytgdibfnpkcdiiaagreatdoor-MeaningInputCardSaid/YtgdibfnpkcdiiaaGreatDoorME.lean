/- Joint text: MNewA, MNewB, MSm, MFew, MTwo. By an AI agent. -/
import Derived.Test.YtgdibfnpkcdiiaaGreatDoorMD
import Derived.Test.YtgdibfnpkcdiiaaGreatDoorJC
import Derived.Laws.StructEq
import Derived.Test.YtgdibfnpkcdiiaaGreatDoorJA
import Derived.Calls
/- A run is made. By an AI agent. -/
namespace Go.Proofs.YtgdibfnpkcdiiaaGreatDoor
open Go.RowKit

/-- A run that has no frame yet. -/
structure NewR (w : World) (ρ : Nat → Option Role) (r n0 : Nat) (gp : PrG) (iv arv : Value) (ars : List Nat) (inp : List Int) (arrs : List (List Int)) : Prop where
  run : Blk w r 113 #[gp.av, gp.fv, .int .i64 gp.p.main, iv, arv, .slice none 0 0, .slice none 0 0, .bool false, .int .i64 0]
  runr : ρ r = some .run
  dom : ∀ k q, ρ k = some q → n0 ≤ k ∧ k < w.heap.size
  ro : ∀ w', (∀ k, ρ k = some .ro → w'.heap[k]? = w.heap[k]?) → PrR w' gp ∧ IntsV w' iv inp
  arow : w.ownsRow n0 40 1 arv arrs.length ((ars.zip arrs).flatMap arC)
  arowr : ∀ k, arv.ownBlock = some k → ρ k = some .arow
  al : ars.length = arrs.length
  arr : ∀ (j b : Nat) (l : List Int), ars[j]? = some b → arrs[j]? = some l → Blk w b 2 (intsC l) ∧ ρ b = some (.arr j)
  n0 : n0 ≤ w.heap.size
section
variable {w w' w1 : World} {ρ ρ' : Nat → Option Role} {r n0 : Nat} {gp : PrG} {iv arv : Value} {ars : List Nat} {inp : List Int} {arrs : List (List Int)}
theorem NewR.below (h : NewR w ρ r n0 gp iv arv ars inp arrs) (hb : Below w.heap.size w w') : NewR w' ρ r n0 gp iv arv ars inp arrs :=
  have k : ∀ b q, ρ b = some q → w'.heap[b]? = w.heap[b]? := fun b q e => hb.block b (h.dom b q e).2
  ⟨h.run.below hb, h.runr, fun k q e => ⟨(h.dom k q e).1, Nat.lt_of_lt_of_le (h.dom k q e).2 hb.size⟩, fun v e => h.ro v fun b hb => (e b hb).trans (k b _ hb), own_keep h.arow fun b e => k b _ (h.arowr b e), h.arowr, h.al, fun j b l e1 e2 => ⟨(k b _ (h.arr j b l e1 e2).2).trans (h.arr j b l e1 e2).1, (h.arr j b l e1 e2).2⟩, Nat.le_trans h.n0 hb.size⟩
theorem NewR.adopt (h : NewR w ρ r n0 gp iv arv ars inp arrs) {b : Nat} (q : Role) (hb : ρ b = none) (h0 : n0 ≤ b) (hl : b < w.heap.size) : NewR w (roleSet ρ b q) r n0 gp iv arv ars inp arrs :=
  have m := role_mono (Or.inr hb) (q := q)
  ⟨h.run, m _ _ h.runr, fun k q e => by
    unfold roleSet at e
    split at e
    · rename_i e2; subst e2; exact ⟨h0, hl⟩
    · exact h.dom k q e, fun v e => h.ro v fun b hb => e b (m _ _ hb), h.arow, fun k e => m _ _ (h.arowr k e), h.al, fun j b l e1 e2 => ⟨(h.arr j b l e1 e2).1, m _ _ (h.arr j b l e1 e2).2⟩, h.n0⟩
theorem NewR.free (h : NewR w ρ r n0 gp iv arv ars inp arrs) {k : Nat} (hk : w.heap.size ≤ k) : ρ k = none := by
  cases e : ρ k with
  | none => rfl
  | some q => have := (h.dom k q e).2; omega
/-- One array more. -/
theorem NewR.app (h : NewR w ρ r n0 gp iv arv ars inp arrs) {vb g cap : Nat} {l : List Int} (hvb : Blk w vb 2 (intsC l)) (hvr : ρ vb = some (.arr arrs.length)) (hown : w1.ownsRow n0 40 1 (.slice (some ⟨g, 0, none⟩) (arrs.length + 1) cap) (arrs.length + 1) ((ars.zip arrs).flatMap arC ++ arC (vb, l))) (hg : w.grownBy w1 arv.ownBlock) (hat : arv.ownBlock = some g ∨ g = w.heap.size) :
    NewR (w1.setCell ⟨r, 4, none⟩ (.slice (some ⟨g, 0, none⟩) (arrs.length + 1) cap)) (roleSet ρ g .arow) r n0 gp iv (.slice (some ⟨g, 0, none⟩) (arrs.length + 1) cap) (ars ++ [vb]) inp (arrs ++ [l]) := by
  have k := grown_set hg .arow h.arowr r 4 h.runr (.slice (some ⟨g, 0, none⟩) (arrs.length + 1) cap) (fun k x e => (h.dom k x e).2)
  have hro : ρ g = some .arow ∨ ρ g = none := by
    rcases hat with c | c
    · exact Or.inl (h.arowr g c)
    · exact Or.inr (h.free (by omega))
  have m := role_mono hro
  have hgr : g ≠ r := fun e => by
    rcases hro with c | c
    · rw [e, h.runr] at c; injection c with c; cases c
    · rw [e, h.runr] at c; cases c
  have hz : (w1.setCell ⟨r, 4, none⟩ (.slice (some ⟨g, 0, none⟩) (arrs.length + 1) cap)).heap.size = w1.heap.size := by simp [World.setCell]
  refine ⟨?_, m _ _ h.runr, fun k q' c => ?_, fun v c => h.ro v fun b hb => (c b (m _ _ hb)).trans (k b _ hb (by simp) (by simp)), ?_, ?_, by simp [h.al], ?_, Nat.le_trans h.n0 (by rw [hz]; exact hg.size)⟩
  · have hb : Blk w1 r 113 #[gp.av, gp.fv, .int .i64 gp.p.main, iv, arv, .slice none 0 0, .slice none 0 0, .bool false, .int .i64 0] := (hg.block r h.run.lt (fun c => by have := h.arowr r c.symm; rw [h.runr] at this; cases this)).trans h.run
    exact hb.put 4 _
  · rw [hz]
    unfold roleSet at c
    split at c
    · rename_i e; subst e; exact hown.lt _ rfl
    · exact ⟨(h.dom k q' c).1, Nat.lt_of_lt_of_le (h.dom k q' c).2 hg.size⟩
  · have : (w1.setCell ⟨r, 4, none⟩ (.slice (some ⟨g, 0, none⟩) (arrs.length + 1) cap)).ownsRow n0 40 1 (.slice (some ⟨g, 0, none⟩) (arrs.length + 1) cap) (arrs.length + 1) ((ars.zip arrs).flatMap arC ++ arC (vb, l)) := own_keep hown fun b c => Below.heap_setCell _ _ _ _ (fun c2 => by
      have c2 : b = r := c2
      simp only [Value.ownBlock, Option.some.injEq] at c; omega)
    rw [List.zip_append h.al]
    simp only [List.flatMap_append, List.flatMap_cons, List.flatMap_nil, List.append_nil, List.length_append, List.length_cons, List.length_nil, List.zip_cons_cons, List.zip_nil_left]
    exact this
  · intro b c; simp only [Value.ownBlock, Option.some.injEq] at c; subst c; exact role_self
  · intro j b l2 e1 e2
    by_cases hj : j < arrs.length
    · rw [List.getElem?_append_left (by rw [h.al]; exact hj)] at e1
      rw [List.getElem?_append_left hj] at e2
      exact ⟨(k b _ (h.arr j b l2 e1 e2).2 (by simp) (by simp)).trans (h.arr j b l2 e1 e2).1, m _ _ (h.arr j b l2 e1 e2).2⟩
    · have hjl := (List.getElem?_eq_some_iff.1 e2).1
      simp only [List.length_append, List.length_cons, List.length_nil] at hjl
      have hje : j = arrs.length := by omega
      subst hje
      rw [List.getElem?_append_right (by rw [h.al]; exact Nat.le_refl _), h.al, Nat.sub_self] at e1
      rw [List.getElem?_append_right (Nat.le_refl _), Nat.sub_self] at e2
      simp at e1 e2
      subst e1; subst e2
      exact ⟨(k vb _ hvr (by simp) (by simp)).trans hvb, m _ _ hvr⟩
theorem NewR.app' (h : NewR w ρ r n0 gp iv arv ars inp arrs) {n vb g cap : Nat} {l : List Int} (hn : n = arrs.length) (hvb : Blk w vb 2 (intsC l)) (hvr : ρ vb = some (.arr n)) (hown : w1.ownsRow n0 40 1 (.slice (some ⟨g, 0, none⟩) (n + 1) cap) (n + 1) ((ars.zip arrs).flatMap arC ++ arC (vb, l))) (hg : w.grownBy w1 arv.ownBlock) (hat : arv.ownBlock = some g ∨ g = w.heap.size) :
    NewR (w1.setCell ⟨r, 4, none⟩ (.slice (some ⟨g, 0, none⟩) (n + 1) cap)) (roleSet ρ g .arow) r n0 gp iv (.slice (some ⟨g, 0, none⟩) (n + 1) cap) (ars ++ [vb]) inp (arrs ++ [l]) := by
  subst hn
  exact h.app hvb hvr hown hg hat
/-- The first frame. -/
theorem NewR.first (h : NewR w ρ r n0 gp iv arv ars inp arrs) {g cap : Nat} (t : FrG) (hx : gp.l[t.r.f]? = some t.x) (hvb : Blk w t.b 2 (intsC t.r.vars)) (hvr : ρ t.b = some (.var 0)) (hown : w1.ownsRow n0 119 8 (.slice (some ⟨g, 0, none⟩) 1 cap) 1 (frC t)) (hg : w.grownBy w1 none) (hat : g = w.heap.size) :
    RunR (w1.setCell ⟨r, 5, none⟩ (.slice (some ⟨g, 0, none⟩) 1 cap)) (roleSet ρ g .frow) ⟨r, n0, gp, iv, arv, .slice (some ⟨g, 0, none⟩) 1 cap, .slice none 0 0, ars, [], t⟩ ⟨inp, arrs, [], t.r, [], false, 0⟩ := by
  have hro := h.free (k := g) (by omega)
  have m := role_mono (q := .frow) (Or.inr hro)
  have hz : (w1.setCell ⟨r, 5, none⟩ (.slice (some ⟨g, 0, none⟩) 1 cap)).heap.size = w1.heap.size := by simp [World.setCell]
  have hgr : g ≠ r := fun e => by rw [e, h.runr] at hro; cases hro
  have k : ∀ b x, ρ b = some x → x ≠ .run → (w1.setCell ⟨r, 5, none⟩ (.slice (some ⟨g, 0, none⟩) 1 cap)).heap[b]? = w.heap[b]? := fun b x e h2 => by
    rw [Below.heap_setCell _ _ _ _ (fun c => by have c : b = r := c; rw [c, h.runr] at e; injection e with e; exact h2 e.symm)]
    exact hg.block b (h.dom b x e).2 (by simp)
  refine ⟨?_, m _ _ h.runr, fun k q' c => ?_, fun v c => h.ro v fun b hb => (c b (m _ _ hb)).trans (k b _ hb (by simp)), own_keep h.arow fun b c => k b _ (h.arowr b c) (by simp), fun b c => m _ _ (h.arowr b c), h.al, fun j b l e1 e2 => ⟨(k b _ (h.arr j b l e1 e2).2 (by simp)).trans (h.arr j b l e1 e2).1, m _ _ (h.arr j b l e1 e2).2⟩, ?_, ?_, rfl, rfl, ?_, ⟨by simp, Or.inl ⟨rfl, rfl⟩⟩, (fun k c => by cases c), Nat.le_trans h.n0 (by rw [hz]; exact hg.size)⟩
  · have hb : Blk w1 r 113 #[gp.av, gp.fv, .int .i64 gp.p.main, iv, arv, .slice none 0 0, .slice none 0 0, .bool false, .int .i64 0] := (hg.block r h.run.lt (by simp)).trans h.run
    exact hb.put 5 _
  · rw [hz]
    unfold roleSet at c
    split at c
    · rename_i e; subst e; exact hown.lt _ rfl
    · exact ⟨(h.dom k q' c).1, Nat.lt_of_lt_of_le (h.dom k q' c).2 hg.size⟩
  · have : (w1.setCell ⟨r, 5, none⟩ (.slice (some ⟨g, 0, none⟩) 1 cap)).ownsRow n0 119 8 (.slice (some ⟨g, 0, none⟩) 1 cap) 1 (frC t) := own_keep hown fun b c => Below.heap_setCell _ _ _ _ (fun c2 => by
      have c2 : b = r := c2
      simp only [Value.ownBlock, Option.some.injEq] at c; omega)
    show (w1.setCell _ _).ownsRow n0 119 8 _ 1 (frC t ++ [])
    rw [List.append_nil]; exact this
  · intro b c; simp only [Value.ownBlock, Option.some.injEq] at c; subst c; exact role_self
  · intro i x c
    rcases fs_cases (bs := []) c with ⟨hi, _⟩ | ⟨rfl, rfl⟩
    · simp at hi
    · exact ⟨hx, (k x.b _ hvr (by simp)).trans hvb, m _ _ hvr⟩
end
end Go.Proofs.YtgdibfnpkcdiiaaGreatDoor

/- A run is made: the walk. By an AI agent. -/
namespace Go.Proofs.YtgdibfnpkcdiiaaGreatDoor
open Go.RowKit

theorem right_sz {p : PrW} (h : rightW p = true) : PrSz p := by
  have g := right_good h
  have h' := h
  simp only [rightW, mainW', Bool.and_eq_true, decide_eq_true_eq, List.all_eq_true] at h'
  obtain ⟨⟨⟨h1, h2, _⟩, _⟩, h5⟩ := h'
  refine ⟨by omega, by omega, by omega, fun f hf => ⟨(g.fns f hf).pos, ?_⟩, fun f hf x hx => ?_⟩
  · have := h5 f hf
    simp only [fnW, Bool.and_eq_true, decide_eq_true_eq] at this
    have := this.1.1.2.2.2.2
    omega
  · have ho := (g.fns f hf).code x hx
    have hm := ho.many
    unfold manyW at hm
    split at hm
    · rename_i e
      have hf2 := (ho.f e)
      have hl : x.f.toNat < p.fns.length := by omega
      rw [List.getElem?_eq_getElem hl] at hm
      have hg := h5 _ (List.getElem_mem hl)
      simp only [fnW, Bool.and_eq_true, decide_eq_true_eq] at hg
      have := hg.1.1.2.1
      have hm : (x.args.length : Int) = (p.fns[x.f.toNat]).params := hm
      omega
    · omega
theorem PrSz.prs {p : PrW} (h : PrSz p) (ok : PrOk p) : PrS p :=
  ⟨by have := h.arrays; omega, by have := h.fns; omega, fun f hf => by have := (h.code f hf).2; omega, fun f hf x hx => by have := h.args f hf x hx; omega, fun f hf x hx => ((ok.fns f hf).code x hx).op⟩
theorem ints_ownE {w : World} {B e n : Nat} {v : Value} {l : List Int} (h : w.ownsRow B e 1 v n (l.flatMap intCM)) (hn : n = l.length) : IntsV w v l :=
  rows_ownM intCM 1 (fun _ => rfl) h hn fun b o x _ hq => hq 0 (by omega)
theorem args_nil (v : Int) : argsM v [] = List.replicate v.toNat 0 := by
  unfold argsM
  rw [List.nil_append, List.take_of_length_le (by simp)]
theorem info40M : (Tryz.prog.info? 40).map (fun i => (i.zero, i.size, i.bytes)) = some (some (.slice none 0 0), 1, 24) := by kernel_rfl
set_option maxRecDepth 100000 in
set_option maxHeartbeats 16000000 in
theorem new_bad (g : PrG) (w : World) (hg : PrR w g) (hs : PrS g.p) (rt : rightW g.p = false) (iv : Value) :
    Calls Tryz.prog 24 #[prV g, iv] w fun e w' => e = .returned (.tuple #[.pointer none, .int .i64 2]) ∧ Below w.heap.size w w' := by
  obtain ⟨p, av, fv, l⟩ := g
  have HG := Lib.hid hg
  obtain ⟨⟨A, ca, hav, _, _⟩, ⟨F, cf, hfv, _, _⟩, _⟩ := hg
  dsimp only at hav hfv hs rt
  subst hav; subst hfv
  have hr := fun W (hW : Below w.heap.size w W) => right_any _ W (HG.out.below hW) hs
  unfold prV at hr ⊢
  dsimp only at hr ⊢
  rw [rt] at hr
  have HR := Lib.hid hr
  obtain ⟨na, hna⟩ : ∃ n, n = p.arrays.length := ⟨_, rfl⟩
  obtain ⟨nl, hnl⟩ : ∃ n, n = l.length := ⟨_, rfl⟩
  rw [← hna, ← hnl] at HR ⊢
  clear hr rt hs HG hna hnl
  go_enter Tryz.func24, Tryz.ntmps24
  go_upto_region 1 with fail
  obtain ⟨W1, hW1⟩ : ∃ W1, W1 = w.alloc (.cells #[.slice A na ca, .slice F nl cf, .int .i64 p.main] 25) := ⟨_, rfl⟩
  obtain ⟨px, hpx⟩ : ∃ b, b = w.heap.size := ⟨_, rfl⟩
  have HB1 := Lib.hid (show Below w.heap.size w W1 by rw [hW1]; exact (Below.refl _ _).alloc (Nat.le_refl _) _)
  have PX := Lib.hid (show Blk W1 px 25 #[.slice A na ca, .slice F nl cf, .int .i64 p.main] by rw [hW1, hpx]; exact Blk.new w 25 _)
  rw [← hW1, ← hpx]
  clear hW1 hpx
  have c0 := PX.out.cell 0; have c1 := PX.out.cell 1; have c2 := PX.out.cell 2
  have lb := PX.out.lt
  go_wp2_with fail
  refine (HR.out W1 HB1.out).mono ?_
  rintro e w2 ⟨rfl, hb2⟩
  have HB2 := Lib.hid (below_next HB1.out hb2)
  clear hb2 c0 c1 c2 lb
  go_wp2_with fail
  go_ret2
  exact ⟨rfl, HB2.out⟩
set_option maxRecDepth 100000 in
set_option maxHeartbeats 32000000 in
theorem new_any (g : PrG) (w : World) (hg : PrR w g) (hs : PrS g.p) (rt : rightW g.p = true) (I : Option Addr) (ci : Nat) (inp : List Int) (hin : IntsV w (.slice I inp.length ci) inp) (hil : inp.length ≤ 1000) :
    Calls Tryz.prog 24 #[prV g, .slice I inp.length ci] w fun e w' => ∃ r ρ gp, e = .returned (.tuple #[.pointer (some ⟨r, 0, none⟩), .int .i64 0]) ∧ gp.p = g.p ∧ Runs w' ρ r w.heap.size gp (newM g.p inp) ∧ Below w.heap.size w w' := by
  obtain ⟨p, av, fv, l⟩ := g
  have HG := Lib.hid hg
  have harr := hg.arrays
  obtain ⟨⟨A, ca, hav, _, _⟩, ⟨F, cf, hfv, _, _⟩, _⟩ := hg
  dsimp only at hav hfv hs rt harr ⊢
  rw [hav] at harr
  subst hav; subst hfv
  have good := right_good rt
  obtain ⟨mn, hmn⟩ := Int.eq_ofNat_of_zero_le good.main.1
  have hr := fun W (hW : Below w.heap.size w W) => right_any _ W (HG.out.below hW) hs
  have hc := fun W (hW : Below w.heap.size w W) => pclone_any _ W (HG.out.below hW) (right_sz rt)
  unfold prV at hr hc ⊢
  dsimp only at hr hc ⊢
  rw [rt] at hr
  obtain ⟨na, hna⟩ : ∃ n, n = p.arrays.length := ⟨_, rfl⟩
  obtain ⟨nl, hnl⟩ : ∃ n, n = l.length := ⟨_, rfl⟩
  obtain ⟨ni, hni⟩ : ∃ n, n = inp.length := ⟨_, rfl⟩
  rw [← hna, ← hnl, hmn] at hr hc
  rw [← hna, ← hnl, hmn, ← hni]
  rw [← hni] at hin hil
  rw [← hna] at harr
  have HR := Lib.hid hr; have HC := Lib.hid hc; have HIN := Lib.hid hin; have HIL := Lib.hid hil; have HNI := Lib.hid hni; have HNA := Lib.hid hna; have HMN := Lib.hid hmn; have GOOD := Lib.hid good; have HARR := Lib.hid harr; have RT := Lib.hid rt
  clear hr hc rt hs HG hna hnl hni hin hil hmn good harr
  go_enter Tryz.func24, Tryz.ntmps24
  go_upto_region 1 with fail
  obtain ⟨W1, hW1⟩ : ∃ W1, W1 = w.alloc (.cells #[.slice A na ca, .slice F nl cf, .int .i64 (mn : Int)] 25) := ⟨_, rfl⟩
  obtain ⟨px, hpx⟩ : ∃ b, b = w.heap.size := ⟨_, rfl⟩
  have HB1 := Lib.hid (show Below w.heap.size w W1 by rw [hW1]; exact (Below.refl _ _).alloc (Nat.le_refl _) _)
  have PX := Lib.hid (show Blk W1 px 25 #[.slice A na ca, .slice F nl cf, .int .i64 (mn : Int)] by rw [hW1, hpx]; exact Blk.new w 25 _)
  rw [← hW1, ← hpx]
  clear hW1 hpx
  have c0 := PX.out.cell 0; have c1 := PX.out.cell 1; have c2 := PX.out.cell 2
  have lb := PX.out.lt
  go_wp2_with fail
  refine (HR.out W1 HB1.out).mono ?_
  rintro e w2 ⟨rfl, hb2⟩
  have HB2 := Lib.hid (below_next HB1.out hb2)
  have PX2 := Lib.hid (PX.out.below hb2)
  clear hb2 c0 c1 c2 lb
  have c0 := PX2.out.cell 0; have c1 := PX2.out.cell 1; have c2 := PX2.out.cell 2
  have lb := PX2.out.lt
  go_wp2_with fail
  refine (HC.out w2 HB2.out).mono ?_
  rintro e w3 ⟨g2, rfl, hgp, hb3, hst⟩
  obtain ⟨p2, av2, fv2, l2⟩ := g2
  dsimp only at hgp
  have hgp := hgp.symm
  subst hgp
  have HB3 := Lib.hid (below_next HB2.out hb3)
  have PX3 := Lib.hid (PX2.out.below hb3)
  have STAY := Lib.hid hst; have SZ23 := Lib.hid (Nat.le_trans HB2.out.size (Nat.le_refl _) : w.heap.size ≤ w2.heap.size); have SZ3 := Lib.hid hb3.size
  clear hb3 hst c0 c1 c2 lb
  dsimp only
  rw [HMN.out]
  have CI := Lib.hid (clone68 I ni ci _ w3 (ints_cells (HIN.out.below HB3.out) HNI.out) (by have := HIL.out; omega))
  go_wp2_with fail
  refine CI.out.mono ?_
  rintro e w4 ⟨vi, rfl, hoi, hb4⟩
  obtain ⟨I2, ci2, hvi⟩ := own_formM hoi
  subst hvi
  have HB4 := Lib.hid (below_next HB3.out hb4)
  have PX4 := Lib.hid (PX3.out.below hb4)
  have OI := Lib.hid hoi; have SZ4 := Lib.hid hb4.size; have HB34 := Lib.hid hb4
  clear hb4 hoi CI
  go_upto_region 4 with fail
  obtain ⟨n0, hn0⟩ : ∃ n, n = w.heap.size := ⟨_, rfl⟩
  rw [← hn0] at SZ23
  have HN0 := Lib.hid hn0
  obtain ⟨W5, hW5⟩ : ∃ W, W = w4.alloc (.cells #[av2, fv2, .int .i64 (mn : Int), .slice I2 ni ci2, .slice none 0 0, .slice none 0 0, .slice none 0 0, .bool false, .int .i64 0] 113) := ⟨_, rfl⟩
  obtain ⟨r, hr⟩ : ∃ r, r = w4.heap.size := ⟨_, rfl⟩
  have HB5 := Lib.hid (show Below w.heap.size w W5 by rw [hW5]; exact HB4.out.alloc HB4.out.size _)
  have hb45 : Below w4.heap.size w4 W5 := by rw [hW5]; exact (Below.refl _ _).alloc (Nat.le_refl _) _
  have PX5 := Lib.hid (PX4.out.below hb45)
  have RB5 := Lib.hid (show Blk W5 r 113 #[av2, fv2, .int .i64 (mn : Int), .slice I2 ni ci2, .slice none 0 0, .slice none 0 0, .slice none 0 0, .bool false, .int .i64 0] by rw [hW5, hr]; exact Blk.new w4 113 _)
  have hrs : W5.heap.size = r + 1 := by rw [hW5, hr]; simp
  obtain ⟨ρ0, hρ0⟩ : ∃ ρ0 : Nat → Option Role, ρ0 = fun k => if k = r then some .run else if n0 ≤ k ∧ k < r then some .ro else none := ⟨_, rfl⟩
  have hro : ∀ k, n0 ≤ k → k < r → ρ0 k = some .ro := fun k h1 h2 => by rw [hρ0]; dsimp only; rw [if_neg (by omega), if_pos ⟨h1, h2⟩]
  have s23 := SZ23.out; have s3 := SZ3.out; have s4 := SZ4.out
  have NR0 : NewR W5 ρ0 r n0 ⟨p, av2, fv2, l2⟩ (.slice I2 ni ci2) (.slice none 0 0) [] inp [] := by
    refine ⟨?_, ?_, fun k q e => ?_, fun w' hw' => ⟨?_, ?_⟩, ⟨rfl, Or.inl ⟨rfl, rfl⟩⟩, (fun k e => by cases e), rfl, (fun j b l e => by simp at e), by omega⟩
    · show Blk W5 r 113 #[av2, fv2, .int .i64 p.main, .slice I2 ni ci2, .slice none 0 0, .slice none 0 0, .slice none 0 0, .bool false, .int .i64 0]
      rw [HMN.out]; exact RB5.out
    · rw [hρ0]; simp
    · rw [hρ0] at e
      dsimp only at e
      split at e
      · omega
      · split at e
        · omega
        · cases e
    · refine STAY.out w' fun k h1 h2 => ?_
      rw [hw' k (hro k (by omega) (by omega)), hb45.block k (by omega), HB34.out.block k h2]
    · refine ints_ownE (own_keep OI.out fun k e => ?_) HNI.out
      have := OI.out.lt k e
      rw [hw' k (hro k (by omega) (by omega)), hb45.block k this.2]
  have HNR := Lib.hid NR0
  rw [← hW5, ← hr]
  clear NR0 hro hρ0 hrs hb45 hW5 hr s23 s3 s4 hn0
  have c0 := PX5.out.cell 0
  have lb := PX5.out.lt
  go_wp2_with fail
  clear c0 lb
  go_loopg [21] na (fun gk v wr => ∃ (i : Nat) (ρi : Nat → Option Role) (V : Option Addr) (cv : Nat) (ars : List Nat), i ≤ na ∧ na - i ≤ gk ∧ v = .int .i64 i ∧ Hid (NewR wr ρi r n0 ⟨p, av2, fv2, l2⟩ (.slice I2 ni ci2) (.slice V i cv) ars inp ((p.arrays.take i).map fun n => List.replicate n.toNat 0)) ∧ Hid (Below w.heap.size w wr) ∧ Hid (Blk wr px 25 #[.slice A na ca, .slice F nl cf, .int .i64 (mn : Int)]) ∧ Hid (px ≠ r))
  case atStart => exact ⟨0, ρ0, none, 0, [], Nat.zero_le _, Nat.le_refl _, rfl, HNR, HB5, PX5, Lib.hid (fun e => by
      have h1 := PX5.out; have h2 := RB5.out
      unfold Blk at h1 h2
      rw [e, h2] at h1; injection h1 with h1; injection h1 with _ h1; revert h1; decide)⟩
  case round =>
    obtain ⟨i, ρi, V, cv, ars, hi, hgk, rfl, HN, HB, HP, HPR⟩ := hrel
    have hal : ((p.arrays.take i).map fun n => List.replicate n.toNat (0 : Int)).length = i := by rw [List.length_map, List.length_take]; have := HNA.out; omega
    have HAL := Lib.hid hal
    have c0 := HP.out.cell 0; have c1 := HP.out.cell 1; have c2 := HP.out.cell 2
    have lb := HP.out.lt
    by_cases hlt : i < na
    case neg =>
      have q : decide ((i : Int) < (na : Int)) = false := decide_eq_false (by omega)
      have HIE := Lib.hid (show p.arrays.take i = p.arrays from List.take_of_length_le (by have := HNA.out; omega))
      obtain ⟨xg, hxg⟩ : ∃ x, l2[mn]? = some x := by
        have he := (HN.out.ro _ (fun _ _ => rfl)).1.eq
        dsimp only at he
        have hm := GOOD.out.main.2
        rw [HMN.out] at hm
        have := congrArg List.length he
        rw [List.length_map] at this
        exact ⟨_, List.getElem?_eq_getElem (by omega)⟩
      have hpr := (HN.out.ro _ (fun _ _ => rfl)).1
      have hfn : p.fns[mn]? = some xg.fn := fns_of hpr hxg
      have hgd := GOOD.out.fns _ (List.mem_of_getElem? hfn)
      obtain ⟨nv, hnv⟩ := Int.eq_ofNat_of_zero_le (show 0 ≤ xg.fn.vars by have := hgd.params; omega)
      obtain ⟨F2, cf2, hF2, hcf2, hfr2⟩ := hpr.fns
      dsimp only at hF2
      have hfx : ∃ b o, F2 = some ⟨b, o, none⟩ ∧ fnAt wr b (o + mn * 4) xg := by
        rcases hfr2 with e | ⟨b, o, e, hr⟩
        · dsimp only at e; rw [e] at hxg; simp at hxg
        · exact ⟨b, o, e, hr mn xg hxg⟩
      have ENT := Lib.hid (enter_raw r n0 0 0 none _ [] mn 0 l2.length cf2 nv F2 xg (.slice none 0 0) [] wr ⟨rfl, Or.inl ⟨rfl, rfl⟩⟩ HN.out.run rfl (by show some fv2 = _; rw [hF2]) (fun k e => by cases e) (by omega) HN.out.n0 hfx (List.getElem?_eq_some_iff.1 hxg).1 hnv (by have := hgd.params; omega) ⟨none, 0, rfl, Nat.le_refl _, Or.inl rfl⟩ (Nat.zero_le _))
      have HXG := Lib.hid hxg; have HNV := Lib.hid hnv; have HFN := Lib.hid hfn
      clear hpr hfn hgd hnv hF2 hcf2 hfr2 hfx hxg hal
      go_wp2_with fail
      refine ENT.out.mono ?_
      rintro e w9 ⟨rfl, W6, vb, g, cap1, w8, hb6, hvb, hvl, hblk, hgr, hown, hat, rfl⟩
      have hN6 := HN.out.below hb6
      have hN7 := hN6.adopt (.var 0) (HN.out.free hvb) (Nat.le_trans HN.out.n0 hvb) hvl
      have hR := hN7.first (newFr xg mn 0 (argsM (nv : Int) []) vb) HXG.out hblk role_self (by simpa using hown) hgr (hat.resolve_left (fun e => by cases e))
      have hnm : (⟨inp, (p.arrays.take i).map (fun n => List.replicate n.toNat 0), [], (newFr xg mn 0 (argsM (nv : Int) []) vb).r, [], false, 0⟩ : MS) = newM p inp := by
        unfold newM newFr varsM
        rw [HIE.out, HMN.out, Int.toNat_natCast, HFN.out, args_nil]
        simp [HNV.out]
      rw [hnm] at hR
      have HRF := Lib.hid hR.runs
      have HBF := Lib.hid (show Below w.heap.size w (w8.setCell ⟨r, 5, none⟩ (.slice (some ⟨g, 0, none⟩) 1 cap1)) from
        ((HB.out.trans (hb6.mono HB.out.size)).trans (show Below w.heap.size W6 w8 from ⟨hgr.os, hgr.tape, hgr.output, hgr.size, fun k hk => hgr.block k (by have := HB.out.size; have := hb6.size; omega) (by simp [Value.ownBlock])⟩)).setCell (p := ⟨r, 5, none⟩) (by rw [← HN0.out]; exact (HN.out.dom r _ HN.out.runr).1) _)
      clear hb6 hvb hvl hblk hgr hown hat hN6 hN7 hR hnm ENT
      go_wp2_with fail
      go_ret2
      exact ⟨r, _, ⟨p, av2, fv2, l2⟩, rfl, rfl, by rw [← HN0.out]; exact HRF.out, HBF.out⟩
    case pos =>
      have q : decide ((i : Int) < (na : Int)) = true := decide_eq_true (by omega)
      have hii : (i : Int) < (na : Int) := by omega
      obtain ⟨n, hn⟩ : ∃ n, p.arrays[i]? = some n := ⟨_, List.getElem?_eq_getElem (by rw [← HNA.out]; exact hlt)⟩
      have hng := GOOD.out.arrays n (List.mem_of_getElem? hn)
      obtain ⟨nn, hnn⟩ := Int.eq_ofNat_of_zero_le (show 0 ≤ n by omega)
      subst hnn
      obtain ⟨ab, ao, hA, hat⟩ : ∃ b o, A = some ⟨b, o, none⟩ ∧ wr.cell? ⟨b, o + i * 1, none⟩ = some (.int .i64 (nn : Int)) := by
        obtain ⟨A2, c2, e2, _, h2⟩ := HARR.out.below HB.out
        injection e2 with e3 _ _
        rcases h2 with e | ⟨b, o, e, hr⟩
        · rw [e] at hn; simp at hn
        · exact ⟨b, o, e3.trans e, hr i _ hn⟩
      subst hA
      rw [Nat.mul_one] at hat
      have la := cell_lt' hat
      have HTK := Lib.hid (show ((p.arrays.take (i + 1)).map fun n => List.replicate n.toNat (0 : Int)) = ((p.arrays.take i).map fun n => List.replicate n.toNat (0 : Int)) ++ [List.replicate nn 0] by
        rw [List.take_add_one, hn]; simp)
      have HNNB := Lib.hid (show nn ≤ 4096 by omega)
      have C4 := Lib.hid (show wr.cell? ⟨r, 4, none⟩ = some (.slice V i cv) from (HN.out.run.cell 4))
      have HLT := Lib.hid hlt
      clear hn hng hal
      go_upto_region 7 with fail
      clear hat la c0 c1 c2 lb q hii
      refine wp_region_float [some (none, .pointer (some ⟨r, 0, none⟩)), some (none, .pointer (some ⟨r, 0, none⟩)), some (none, .pointer (some ⟨r, 0, none⟩)), some (none, .pointer (some ⟨r, 4, none⟩)), some (none, .slice V i cv), some (none, .int .i64 (nn : Int)), none, none, none, none, none, none] (fun W => W.cell? ⟨r, 4, none⟩ = some (.slice V i cv)) 6 mixedT (fun _ a a2 _ hd h => by cases a; cases a2; cases hd; exact h) (by kernel_rfl) (fun Wd hh _ => (cell_heap hh _).trans C4.out) ?_
      intro FF AA Wd hA hF hWh hWd
      have hL : HasL FF [(6, .pointer (some ⟨r, 0, none⟩)), (8, .int .i64 (nn : Int)), (25, .pointer (some ⟨r, 0, none⟩)), (26, .pointer (some ⟨r, 0, none⟩)), (27, .pointer (some ⟨r, 0, none⟩)), (28, .pointer (some ⟨r, 4, none⟩)), (29, .slice V i cv), (30, .int .i64 (nn : Int))] := by unfold HasL; rw [hF, hA]; kernel_rfl
      have HF := Lib.hid hF; clear hF; have HA := Lib.hid hA; clear hA
      refine ⟨?_, ?_⟩
      · intro Z hZ
        repeat clear ‹∀ (a : Act) (w : World), Code.wp Tryz.prog _ _ a w → _›
        have gff := gd_ff
        have gtt := gd_tt
        exact
        ResF.cons (FlRes.val (by have a6 := hL.at 0 rfl; go_simp)) (
        ResF.cons (FlRes.val (by have a6 := hL.at 0 rfl; go_simp)) (
        ResF.cons (FlRes.val (by have a26 := hL.at 3 rfl; go_simp)) (
        ResF.cons (FlRes.val (by have a27 := hL.at 4 rfl; go_simp)) (
        ResF.cons (FlRes.val (by have a28 := hL.at 5 rfl; have kk := hZ; go_simp)) (
        ResF.cons (FlRes.val (by have a8 := hL.at 1 rfl; go_simp)) (
        ResF.pass (
        ResF.pass (
        ResF.pass (
        ResF.pass (
        ResF.pass (
        ResF.pass (
        ResF.nil))))))))))))
      clear hL
      obtain ⟨gf, hFF⟩ : ∃ gf : Nat → Value, FF = putL [(25, .pointer (some ⟨r, 0, none⟩)), (26, gf 26), (27, gf 27), (28, gf 28), (29, .slice V i cv), (30, .int .i64 (nn : Int))] AA := ⟨fun k => FF.tmps.getD k undef, by rw [HF.out, HA.out]; kernel_rfl⟩
      clear HF
      rw [HA.out] at hFF; clear HA
      simp only [putL, Act.put, List.setIfInBounds_toArray, List.set_cons_zero, List.set_cons_succ] at hFF
      subst hFF
      have hmk := fun U => make_ints nn (by have := HNNB.out; omega) U
      have HN5 := Lib.hid (HN.out.below hWd)
      refine wpAnyS_one 6 rfl (by kernel_rfl) (fun KK hK => ?_)
      go_simp
      have hSa : (Wd.alloc (.cells (intsC (List.replicate nn 0)) 2)).cell? ⟨r, 4, none⟩ = some (.slice V i cv) := (HN5.out.below ((Below.refl _ _).alloc (Nat.le_refl _) _)).run.cell 4
      refine hK.out _ _ (Or.inl hSa) ?_
      clear hK hSa hmk
      obtain ⟨W6, hW6⟩ : ∃ W, W = Wd.alloc (.cells (intsC (List.replicate nn 0)) 2) := ⟨_, rfl⟩
      obtain ⟨vb, hvb⟩ : ∃ b, b = wr.heap.size := ⟨_, rfl⟩
      have hb6 : Below wr.heap.size wr W6 := by rw [hW6]; exact hWd.alloc hWd.size _
      have VB6 := Lib.hid (show Blk W6 vb 2 (intsC (List.replicate nn 0)) by
        have := Blk.new Wd 2 (intsC (List.replicate nn 0))
        rw [hWh, ← hvb] at this
        rw [hW6]; exact this)
      have HB6 := Lib.hid hb6
      have HVB := Lib.hid hvb
      rw [← hW6, ← hvb]
      clear hW6 hb6 hvb HN5
      refine wpAnyS_one 7 rfl (by kernel_rfl) (fun KK hK => ?_)
      go_simp
      have hSb : (W6.alloc (.cells #[.slice (some ⟨vb, 0, none⟩) nn nn] 40)).cell? ⟨r, 4, none⟩ = some (.slice V i cv) := (HN.out.below (HB6.out.alloc HB6.out.size _)).run.cell 4
      refine hK.out _ _ (Or.inl hSb) ?_
      clear hK hSb
      obtain ⟨W7, hW7⟩ : ∃ W, W = W6.alloc (.cells #[.slice (some ⟨vb, 0, none⟩) nn nn] 40) := ⟨_, rfl⟩
      obtain ⟨bx, hbx⟩ : ∃ b, b = W6.heap.size := ⟨_, rfl⟩
      have hb7 : Below wr.heap.size wr W7 := by rw [hW7]; exact HB6.out.alloc HB6.out.size _
      have VB7 := Lib.hid (show Blk W7 vb 2 (intsC (List.replicate nn 0)) by rw [hW7]; exact VB6.out.alloc _)
      have BX7 := Lib.hid (show Blk W7 bx 40 #[.slice (some ⟨vb, 0, none⟩) nn nn] by rw [hW7, hbx]; exact Blk.new W6 40 _)
      have HB7 := Lib.hid hb7
      rw [← hW7, ← hbx]
      clear hW7 hb7 hbx VB6 HB6
      have hN7 := HN.out.below HB7.out
      have hN8 := hN7.adopt (.arr i) (HN.out.free (Nat.le_of_eq HVB.out.symm)) (by have := HN.out.n0; have := HVB.out; omega) VB7.out.lt
      have HN8 := Lib.hid hN8
      have ho8 := hN8.arow
      rw [HAL.out] at ho8
      have HO8 := Lib.hid ho8
      clear hN7 hN8 ho8
      obtain ⟨i0, hi0, hz0, hz1, hz2⟩ := info_parts info40M
      refine wpAnyS_one 8 rfl (by kernel_rfl) (fun KK hK => ?_)
      refine step_append_lies _ rfl _ _ 109 rfl n0 40 i0 (.slice none 0 0) 1 24 Tryz.underlying109 hi0 hz0 hz1 hz2 rfl (by decide) _ _ _ rfl HO8.out ⟨bx, 0, none⟩ 1 1 (arC (vb, List.replicate nn 0)) rfl rfl (fun j u hu => World.news_of_block (cs := #[.slice (some ⟨vb, 0, none⟩) nn nn]) (t := 40) (fr := (0, 0)) BX7.out j u (by simpa [arC] using hu)) (by simp [arC, Value.oneCell']) (by decide) (by have := HNA.out; have := HLT.out; have := (right_sz RT.out).arrays; unfold maxLen; omega) (by have := HNA.out; have := HLT.out; have := (right_sz RT.out).arrays; omega) HN8.out.n0 _ rfl ?_
      intro g cap1 w1 hown hgrow hat hlt2
      have hrne : some r ≠ (Value.slice V i cv).ownBlock := fun e => by have := HN8.out.arowr r e.symm; rw [HN8.out.runr] at this; cases this
      have hS1 : w1.cell? ⟨r, 4, none⟩ = some (.slice V i cv) := hgrow.cell (HN8.out.run.cell 4) hrne
      have hf1 : Blk w1 r 113 _ := (hgrow.block r HN8.out.run.lt hrne).trans HN8.out.run
      refine hK.out _ _ (Or.inl hS1) ?_
      clear hK
      refine wpAnyS_one 9 rfl (by kernel_rfl) (fun KK hK => ?_)
      go_simp
      refine hK.out _ _ (Or.inl hS1) ?_
      clear hK
      refine wpAnyS_one 10 rfl (by kernel_rfl) (fun KK hK => ?_)
      go_simp
      refine hK.out _ _ (Or.inl hS1) ?_
      clear hK
      have f4 := hf1.free 4
      have l4 := hf1.lt
      have hnx := HN8.out.app' HAL.out.symm VB7.out role_self hown hgrow hat
      rw [← HTK.out] at hnx
      have HNX := Lib.hid hnx
      have HBX := Lib.hid (show Below w.heap.size w (w1.setCell ⟨r, 4, none⟩ (.slice (some ⟨g, 0, none⟩) (i + 1) cap1)) from
        ((HB.out.trans (HB7.out.mono HB.out.size)).grown hgrow (by have := HB.out.size; have := HB7.out.size; omega) (fun k e => by rw [← HN0.out]; exact (HO8.out.lt k e).1)).setCell (p := ⟨r, 4, none⟩) (by rw [← HN0.out]; exact (HN.out.dom r _ HN.out.runr).1) _)
      have HPX := Lib.hid (Blk.far ((hgrow.block px (HP.out.below HB7.out).lt (fun e => by
        obtain ⟨cur, hc⟩ := own_type HO8.out e.symm
        have h1 := HP.out.below HB7.out
        unfold Blk at h1
        rw [hc] at h1; injection h1 with h1; injection h1 with _ h1; revert h1; decide)).trans (HP.out.below HB7.out)) HPR.out 4 (.slice (some ⟨g, 0, none⟩) (i + 1) cap1))
      clear hnx hown hgrow hat hlt2 hrne hf1
      refine wpAnyS_one 11 rfl (by kernel_rfl) (fun KK hK => ?_)
      go_simp
      refine hK.out _ _ (Or.inr (by kernel_rfl)) ?_
      clear hK
      refine wpAnyS_end (by kernel_rfl) ?_
      have hib : i ≤ 1000 := by have := HNA.out; have := HLT.out; have := (right_sz RT.out).arrays; omega
      clear hS1 f4 l4
      obtain ⟨W9, hW9⟩ : ∃ W, W = w1.setCell ⟨r, 4, none⟩ (.slice (some ⟨g, 0, none⟩) (i + 1) cap1) := ⟨_, rfl⟩
      rw [← hW9] at HNX HBX HPX ⊢
      clear hW9
      go_wp2_with fail
      cases gk with
      | zero => omega
      | succ gk =>
        go_roundg gk
        case measure => omega
        case rel => exact ⟨i + 1, _, _, _, _, by omega, by omega, by simp, HNX, HBX, HPX, HPR⟩
end Go.Proofs.YtgdibfnpkcdiiaaGreatDoor

/- Rows of events: are they the same, does one begin with another one; what a run tells. By an AI agent. -/
namespace Go.Proofs.YtgdibfnpkcdiiaaGreatDoor
open Go.RowKit

structure evAt (w : World) (b o : Nat) (e : Nat × Int) : Prop where
  c0 : w.cell? ⟨b, o, none⟩ = some (.int .u8 e.1)
  c1 : w.cell? ⟨b, o + 1, none⟩ = some (.int .i64 e.2)
def EvS (w : World) (v : Value) (l : List (Nat × Int)) : Prop := RowsV 2 evAt w v l
theorem EvS.below {w w' : World} {v : Value} {l : List (Nat × Int)} (h : EvS w v l) (hb : Below w.heap.size w w') : EvS w' v l := RowsV.mono h fun _ _ _ _ h => ⟨get_b hb h.c0, get_b hb h.c1⟩
theorem ret_bM {a b : Bool} (h : a = b) : Ending.returned (.bool a) = Ending.returned (.bool b) := by rw [h]
theorem take_eqM {α : Type} {l m : List α} {i : Nat} {x : α} (h : l.take i = m.take i) (hx : l[i]? = some x) (hy : m[i]? = some x) : l.take (i + 1) = m.take (i + 1) := by
  rw [List.take_add_one, List.take_add_one, hx, hy, h]
theorem ev_ne (y z : Nat × Int) (W : World) : (binOp .neq 52 (.agg #[.int .u8 y.1, .int .i64 y.2]) (.agg #[.int .u8 z.1, .int .i64 z.2])).run Tryz.prog W = .ok (.bool (decide (y ≠ z))) W := by
  obtain ⟨a, b⟩ := y
  obtain ⟨c, d⟩ := z
  have e1 : ((a : Int) = (c : Int)) = (a = c) := by simp only [eq_iff_iff]; omega
  by_cases h1 : a = c <;> by_cases h2 : b = d <;> simp [go_sem, e1, h1, h2]
set_option maxRecDepth 100000 in
set_option maxHeartbeats 8000000 in
theorem evsame_any (v u : Value) (ks ls : List (Nat × Int)) (w : World) (h : EvS w v ks) (k : EvS w u ls) (h1 : ks.length ≤ 1000000) :
    Calls Tryz.prog 29 #[v, u] w fun e w' => e = .returned (.bool (decide (ks = ls))) ∧ Below w.heap.size w w' := by
  obtain ⟨A, c, rfl, hc, h⟩ := h
  obtain ⟨A2, c2, rfl, hc2, k⟩ := k
  obtain ⟨n, hn⟩ : ∃ n, n = ks.length := ⟨_, rfl⟩
  obtain ⟨n2, hn2⟩ : ∃ n, n = ls.length := ⟨_, rfl⟩
  rw [← hn, ← hn2]
  have H := Lib.hid h; have K := Lib.hid k; have HN := Lib.hid hn; have HN2 := Lib.hid hn2; have H1 := Lib.hid h1
  obtain ⟨res, hres⟩ : ∃ r, r = decide (ks = ls) := ⟨_, rfl⟩
  rw [← hres]
  have HR := Lib.hid hres
  clear h k hn hn2 hc hc2 h1 hres
  go_enter Tryz.func29, Tryz.ntmps29
  by_cases hnn : n = n2
  case neg =>
    have hb : ((n : Int) != (n2 : Int)) = true := by simp; omega
    have HNO := Lib.hid (show res = false by rw [HR.out]; exact decide_eq_false (fun e => hnn (by rw [HN.out, HN2.out, e])))
    clear hnn
    go_wp2_with fail
    go_ret
    exact ⟨ret_bM HNO.out.symm, Below.refl _ _⟩
  case pos =>
    subst hnn
    have hb : ((n : Int) != (n : Int)) = false := by simp
    go_wp2_with fail
    go_loopg [5] n (fun gk v wr => ∃ i : Nat, i ≤ n ∧ n - i ≤ gk ∧ v = .int .i64 i ∧ Hid (Below w.heap.size w wr) ∧ Hid (ks.take i = ls.take i))
    case atStart => exact ⟨0, Nat.zero_le _, Nat.le_refl _, rfl, Lib.hid (Below.refl _ _), Lib.hid (by simp)⟩
    case round =>
      obtain ⟨i, hi, hgk, rfl, HB, HI⟩ := hrel
      by_cases hlt : i < n
      case neg =>
        have q : decide ((i : Int) < (n : Int)) = false := decide_eq_false (by omega)
        have HY := Lib.hid (show res = true by
          have := HI.out
          rw [List.take_of_length_le (by rw [← HN.out]; omega), List.take_of_length_le (by rw [← HN2.out]; omega)] at this
          rw [HR.out]
          exact decide_eq_true this)
        go_wp2_with fail
        go_ret
        exact ⟨ret_bM HY.out.symm, HB.out⟩
      case pos =>
        have q : decide ((i : Int) < (n : Int)) = true := decide_eq_true (by omega)
        obtain ⟨y, hy⟩ : ∃ y, ks[i]? = some y := ⟨_, List.getElem?_eq_getElem (by rw [← HN.out]; exact hlt)⟩
        obtain ⟨z, hz⟩ : ∃ y, ls[i]? = some y := ⟨_, List.getElem?_eq_getElem (by rw [← HN2.out]; exact hlt)⟩
        obtain ⟨ab, ao, rfl, hat⟩ : ∃ b o, A = some ⟨b, o, none⟩ ∧ evAt wr b (o + i * 2) y := by
          rcases H.out with e | ⟨b, o, e, q⟩
          · rw [e] at hy; simp at hy
          · exact ⟨b, o, e, ⟨get_b HB.out (q i y hy).c0, get_b HB.out (q i y hy).c1⟩⟩
        obtain ⟨cb, co, rfl, hat2⟩ : ∃ b o, A2 = some ⟨b, o, none⟩ ∧ evAt wr b (o + i * 2) z := by
          rcases K.out with e | ⟨b, o, e, q⟩
          · rw [e] at hz; simp at hz
          · exact ⟨b, o, e, ⟨get_b HB.out (q i z hz).c0, get_b HB.out (q i z hz).c1⟩⟩
        have Y0 := Lib.hid hat.c0; have Y1 := Lib.hid hat.c1; have Z0 := Lib.hid hat2.c0; have Z1 := Lib.hid hat2.c1
        have HYY := Lib.hid hy; have HZZ := Lib.hid hz; have HII := Lib.hid (show (i : Int) < (n : Int) by omega)
        obtain ⟨ne, hne⟩ : ∃ b, b = decide (y ≠ z) := ⟨_, rfl⟩
        have HNE := Lib.hid (fun W => ev_ne y z W)
        rw [← hne] at HNE
        have HNEE := Lib.hid hne
        clear hat hat2 hy hz hne
        go_upto_region 6 with fail
        refine wp_region_valsA [(none, .slice (some ⟨ab, ao, none⟩) n c), (none, .int .i64 (i : Int)), (none, .pointer (some ⟨ab, ao + i * 2, none⟩)), (none, .agg #[.int .u8 y.1, .int .i64 y.2]), (none, .slice (some ⟨cb, co, none⟩) n c2), (none, .int .i64 (i : Int)), (none, .pointer (some ⟨cb, co + i * 2, none⟩)), (none, .agg #[.int .u8 z.1, .int .i64 z.2]), (none, .bool ne)] mixedT (by kernel_rfl) ?_
        intro FF AA hA hF
        have hL : HasL FF [(0, .slice (some ⟨ab, ao, none⟩) n c), (1, .slice (some ⟨cb, co, none⟩) n c2), (5, .int .i64 (i : Int)), (17, .slice (some ⟨ab, ao, none⟩) n c), (18, .int .i64 (i : Int)), (19, .pointer (some ⟨ab, ao + i * 2, none⟩)), (20, .agg #[.int .u8 y.1, .int .i64 y.2]), (21, .slice (some ⟨cb, co, none⟩) n c2), (22, .int .i64 (i : Int)), (23, .pointer (some ⟨cb, co + i * 2, none⟩)), (24, .agg #[.int .u8 z.1, .int .i64 z.2]), (25, .bool ne)] := by unfold HasL; rw [hF, hA]; kernel_rfl
        have HF := Lib.hid hF; clear hF; have HA := Lib.hid hA; clear hA
        refine ⟨?_, ?_⟩
        · intro V hV
          repeat clear ‹∀ (a : Act) (w : World), Code.wp Tryz.prog _ _ a w → _›
          have gff := gd_ff
          have gtt := gd_tt
          have hi0 := HII.out
          exact
          ResL.cons (OpRes.val (by have a0 := hL.at 0 rfl; go_simp)) (
          ResL.cons (OpRes.val (by have a5 := hL.at 2 rfl; go_simp)) (
          ResL.cons (OpRes.val (by have a17 := hL.at 3 rfl; have a18 := hL.at 4 rfl; go_simp)) (
          ResL.cons (OpRes.val (by have a19 := hL.at 5 rfl; have k0 := get_b hV Y0.out; have k1 := get_b hV Y1.out; go_simp)) (
          ResL.cons (OpRes.val (by have a1 := hL.at 1 rfl; go_simp)) (
          ResL.cons (OpRes.val (by have a5 := hL.at 2 rfl; go_simp)) (
          ResL.cons (OpRes.val (by have a21 := hL.at 7 rfl; have a22 := hL.at 8 rfl; go_simp)) (
          ResL.cons (OpRes.val (by have a23 := hL.at 9 rfl; have k0 := get_b hV Z0.out; have k1 := get_b hV Z1.out; go_simp)) (
          ResL.cons (OpRes.val (by have a20 := hL.at 6 rfl; have a24 := hL.at 10 rfl; have en := HNE.out; go_simp)) (
          ResL.nil)))))))))
        intro V hV
        clear hL
        obtain ⟨gg, hFF⟩ : ∃ gg : Nat → Value, FF = putL [(17, gg 17), (18, gg 18), (19, gg 19), (20, gg 20), (21, gg 21), (22, gg 22), (23, gg 23), (24, gg 24), (25, .bool ne)] AA := ⟨fun k => FF.tmps.getD k undef, by rw [HF.out, HA.out]; kernel_rfl⟩
        clear HF
        rw [HA.out] at hFF; clear HA
        simp only [putL, Act.put, List.setIfInBounds_toArray, List.set_cons_zero, List.set_cons_succ] at hFF
        subst hFF
        refine wpList_nil ?_
        have HBV := Lib.hid (HB.out.trans (hV.mono HB.out.size)); clear hV
        cases ne with
        | true =>
          have HNO := Lib.hid (show res = false by
            rw [HR.out]
            refine decide_eq_false fun e => ?_
            have e1 := HYY.out
            rw [e, HZZ.out] at e1
            injection e1 with e1
            have := HNEE.out
            rw [e1] at this
            simp at this)
          go_wp2_with fail
          go_ret
          exact ⟨ret_bM HNO.out.symm, HBV.out⟩
        | false =>
          have HI2 := Lib.hid (take_eqM HI.out HYY.out (show ls[i]? = some y by
            have := HNEE.out
            rw [show y = z by simpa using this]; exact HZZ.out))
          have hnb : n ≤ 1000000 := by rw [HN.out]; exact H1.out
          go_wp2_with fail
          cases gk with
          | zero => omega
          | succ gk =>
            go_roundg gk
            case measure => omega
            case rel => exact ⟨i + 1, by omega, by omega, by simp, HBV, HI2⟩

set_option maxRecDepth 100000 in
set_option maxHeartbeats 8000000 in
theorem evbegins_any (v u : Value) (ks ls : List (Nat × Int)) (w : World) (h : EvS w v ks) (k : EvS w u ls) (_h1 : ks.length ≤ 1000000) (h2 : ls.length ≤ 1000000) :
    Calls Tryz.prog 30 #[v, u] w fun e w' => e = .returned (.bool (decide (ls.length ≤ ks.length ∧ ks.take ls.length = ls))) ∧ Below w.heap.size w w' := by
  have hs : ∀ (A : Option Addr) (c : Nat), v = .slice A ks.length c → ls.length ≤ ks.length → EvS w (.slice A ls.length c) (ks.take ls.length) := fun A c e hl => by
    obtain ⟨A2, c2, e2, hc2, h3⟩ := h
    rw [e] at e2; injection e2 with e3 _ e4
    subst e3; subst e4
    refine ⟨A, c, by rw [List.length_take, Nat.min_eq_left hl], by rw [List.length_take]; omega, ?_⟩
    rcases h3 with h3 | ⟨b, o, e5, h3⟩
    · left; rw [h3]; simp
    · exact Or.inr ⟨b, o, e5, fun i x hx => h3 i x (by
        rw [List.getElem?_take] at hx
        split at hx
        · exact hx
        · cases hx)⟩
  obtain ⟨A, c, rfl, hc, _⟩ := h
  have hs := hs A c rfl
  have K := Lib.hid k
  obtain ⟨A2, c2, hu, hc2, _⟩ := k
  by_cases hl : ls.length ≤ ks.length
  · have SM := Lib.hid (evsame_any _ u _ _ w (hs hl) K.out (by rw [List.length_take]; omega))
    rw [hu] at SM ⊢
    have e1 : decide (ls.length ≤ ks.length ∧ ks.take ls.length = ls) = decide (ks.take ls.length = ls) := by simp [hl]
    rw [e1]
    obtain ⟨res, hres⟩ : ∃ r, r = decide (ks.take ls.length = ls) := ⟨_, rfl⟩
    rw [← hres] at SM ⊢
    obtain ⟨n, hn⟩ : ∃ n, n = ks.length := ⟨_, rfl⟩
    obtain ⟨m, hm⟩ : ∃ n, n = ls.length := ⟨_, rfl⟩
    rw [← hn, ← hm] at hl
    rw [← hn] at hc
    rw [← hm] at SM
    rw [← hn, ← hm]
    have hmc : m ≤ c := by omega
    have hmc2 : (m : Int) ≤ (c : Int) := by omega
    have hmc3 : (m : Int) ≤ (n : Int) := by omega
    have hmc4 : (n : Int) ≥ (m : Int) := by omega
    clear hs hu hres hn hm e1 _h1 h2 K hc hc2
    go_enter Tryz.func30, Tryz.ntmps30
    go_wp2_with fail
    refine SM.out.mono ?_
    rintro e w1 ⟨rfl, hb⟩
    have HB := Lib.hid hb; clear hb SM
    go_wp2_with fail
    go_ret
    exact ⟨rfl, HB.out⟩
  · have e1 : decide (ls.length ≤ ks.length ∧ ks.take ls.length = ls) = false := decide_eq_false (fun h => hl h.1)
    rw [e1, hu]
    obtain ⟨n, hn⟩ : ∃ n, n = ks.length := ⟨_, rfl⟩
    obtain ⟨m, hm⟩ : ∃ n, n = ls.length := ⟨_, rfl⟩
    rw [← hn, ← hm] at hl ⊢
    have hl2 : ¬ ((m : Int) ≤ (n : Int)) := by omega
    clear hs hu hn hm e1 _h1 h2 K hc hc2
    go_enter Tryz.func30, Tryz.ntmps30
    go_wp2_with fail
    go_ret
    exact ⟨rfl, Below.refl _ _⟩
set_option maxRecDepth 100000 in
set_option maxHeartbeats 8000000 in
theorem ended_any {w : World} {ρ : Nat → Option Role} {r n0 : Nat} {gp : PrG} {s : MS} (h : Runs w ρ r n0 gp s) :
    Calls Tryz.prog 27 #[.pointer (some ⟨r, 0, none⟩)] w fun e w' => e = .returned (.bool s.ended) ∧ Below w.heap.size w w' := by
  obtain ⟨G, rfl, rfl, rfl, h⟩ := h
  obtain ⟨b, hb⟩ : ∃ b, b = s.ended := ⟨_, rfl⟩
  have c7 : w.cell? ⟨G.r, 7, none⟩ = some (.bool b) := (h.run.cell 7).trans (by simp [RG.cells, hb])
  have lr := h.run.lt
  rw [← hb]
  clear h hb
  go_enter Tryz.func27, Tryz.ntmps27
  cases b <;> (go_wp2_with fail; go_ret; exact ⟨rfl, Below.refl _ _⟩)
set_option maxRecDepth 100000 in
set_option maxHeartbeats 8000000 in
theorem steps_any {w : World} {ρ : Nat → Option Role} {r n0 : Nat} {gp : PrG} {s : MS} (h : Runs w ρ r n0 gp s) :
    Calls Tryz.prog 28 #[.pointer (some ⟨r, 0, none⟩)] w fun e w' => e = .returned (.int .i64 (s.steps : Int)) ∧ Below w.heap.size w w' := by
  obtain ⟨G, rfl, rfl, rfl, h⟩ := h
  have c8 : w.cell? ⟨G.r, 8, none⟩ = some (.int .i64 (s.steps : Int)) := h.run.cell 8
  have lr := h.run.lt
  clear h
  go_enter Tryz.func28, Tryz.ntmps28
  go_wp2_with fail
  go_ret
  exact ⟨rfl, Below.refl _ _⟩
set_option maxRecDepth 100000 in
set_option maxHeartbeats 8000000 in
theorem depth_any {w : World} {ρ : Nat → Option Role} {r n0 : Nat} {gp : PrG} {s : MS} (h : Runs w ρ r n0 gp s) :
    Calls Tryz.prog 31 #[.pointer (some ⟨r, 0, none⟩)] w fun e w' => e = .returned (.int .i64 ((s.base.length + 1 : Nat) : Int)) ∧ Below w.heap.size w w' := by
  obtain ⟨G, rfl, rfl, rfl, h⟩ := h
  obtain ⟨fb, cap, hv⟩ := h.frv_form
  have hl : G.bs.length = s.base.length := by rw [← h.fb, List.length_map]
  rw [hl] at hv
  obtain ⟨m, hm⟩ : ∃ m, m = s.base.length + 1 := ⟨_, rfl⟩
  rw [← hm] at hv ⊢
  have c5 := h.frvc hv
  have lr := h.run.lt
  clear h hv hl hm
  go_enter Tryz.func31, Tryz.ntmps31
  go_wp2_with fail
  go_ret
  exact ⟨rfl, Below.refl _ _⟩
set_option maxRecDepth 100000 in
set_option maxHeartbeats 8000000 in
theorem at_any {w : World} {ρ : Nat → Option Role} {r n0 : Nat} {gp : PrG} {s : MS} (h : Runs w ρ r n0 gp s) (hb : s.base.length ≤ 1000000) :
    Calls Tryz.prog 32 #[.pointer (some ⟨r, 0, none⟩)] w fun e w' => e = .returned (.tuple #[.int .i64 (s.top.f : Int), .int .i64 (s.top.i : Int)]) ∧ Below w.heap.size w w' := by
  have DP := Lib.hid (depth_any h)
  obtain ⟨G, rfl, rfl, rfl, h⟩ := h
  obtain ⟨fb, cap, hv⟩ := h.frv_form
  have hl : G.bs.length = s.base.length := by rw [← h.fb, List.length_map]
  have hf := frame_cell h hv
  obtain ⟨n, hn⟩ : ∃ n, n = G.bs.length := ⟨_, rfl⟩
  rw [← hn] at hv hf
  obtain ⟨m, hm⟩ : ∃ m, m = s.base.length + 1 := ⟨_, rfl⟩
  rw [← hm] at DP
  obtain ⟨f, hff⟩ : ∃ f, f = s.top.f := ⟨_, rfl⟩
  obtain ⟨i, hii⟩ : ∃ f, f = s.top.i := ⟨_, rfl⟩
  have F4 := Lib.hid (show w.cell? ⟨fb, n * 8 + 4, none⟩ = some (.int .i64 (f : Int)) by rw [hf 4 (by decide), hff, ← h.ft]; rfl)
  have F5 := Lib.hid (show w.cell? ⟨fb, n * 8 + 5, none⟩ = some (.int .i64 (i : Int)) by rw [hf 5 (by decide), hii, ← h.ft]; rfl)
  rw [← hff, ← hii]
  have C5 := Lib.hid (h.frvc hv)
  have TOP := Lib.hid (fun U (hU : Below w.heap.size w U) => top_any G.r fb n (n + 1) cap U (get_b hU C5.out) rfl (by omega))
  have q0 : ((m : Int) == 0) = false := by simp; omega
  have q0' : ¬ m = 0 := by omega
  clear h hv hl hf hn hm hff hii hb
  go_enter Tryz.func32, Tryz.ntmps32
  go_wp2_with fail
  refine DP.out.mono ?_
  rintro e w1 ⟨rfl, hb1⟩
  have HB1 := Lib.hid hb1; clear hb1 DP
  go_wp2_with fail
  refine (TOP.out w1 HB1.out).mono ?_
  rintro e w2 ⟨rfl, hb2⟩
  have HB2 := Lib.hid (below_next HB1.out hb2)
  have F4 := Lib.hid (get_b HB2.out F4.out); have F5 := Lib.hid (get_b HB2.out F5.out)
  clear hb2 TOP q0 q0'
  go_upto_region 4 with fail
  refine wp_region_valsA [(none, .pointer (some ⟨fb, n * 8, none⟩)), (none, .pointer (some ⟨fb, n * 8, none⟩)), (none, .pointer (some ⟨fb, n * 8 + 4, none⟩)), (none, .int .i64 (f : Int)), (none, .pointer (some ⟨fb, n * 8, none⟩)), (none, .pointer (some ⟨fb, n * 8, none⟩)), (none, .pointer (some ⟨fb, n * 8 + 5, none⟩)), (none, .int .i64 (i : Int)), (none, .int .i64 (f : Int)), (none, .int .i64 (i : Int))] mixedT (by kernel_rfl) ?_
  intro FF AA hA hF
  have hL : HasL FF [(4, .pointer (some ⟨fb, n * 8, none⟩)), (12, .pointer (some ⟨fb, n * 8, none⟩)), (13, .pointer (some ⟨fb, n * 8, none⟩)), (14, .pointer (some ⟨fb, n * 8 + 4, none⟩)), (15, .int .i64 (f : Int)), (16, .pointer (some ⟨fb, n * 8, none⟩)), (17, .pointer (some ⟨fb, n * 8, none⟩)), (18, .pointer (some ⟨fb, n * 8 + 5, none⟩)), (19, .int .i64 (i : Int)), (2, .int .i64 (f : Int)), (3, .int .i64 (i : Int))] := by unfold HasL; rw [hF, hA]; kernel_rfl
  have HF := Lib.hid hF; clear hF; have HA := Lib.hid hA; clear hA
  refine ⟨?_, ?_⟩
  · intro V hV
    repeat clear ‹∀ (a : Act) (w : World), Code.wp Tryz.prog _ _ a w → _›
    have gff := gd_ff
    have gtt := gd_tt
    exact
    ResL.cons (OpRes.val (by have a4 := hL.at 0 rfl; go_simp)) (
    ResL.cons (OpRes.val (by have a12 := hL.at 1 rfl; go_simp)) (
    ResL.cons (OpRes.val (by have a13 := hL.at 2 rfl; go_simp)) (
    ResL.cons (OpRes.val (by have a14 := hL.at 3 rfl; have kk := get_b hV F4.out; go_simp)) (
    ResL.cons (OpRes.val (by have a4 := hL.at 0 rfl; go_simp)) (
    ResL.cons (OpRes.val (by have a16 := hL.at 5 rfl; go_simp)) (
    ResL.cons (OpRes.val (by have a17 := hL.at 6 rfl; go_simp)) (
    ResL.cons (OpRes.val (by have a18 := hL.at 7 rfl; have kk := get_b hV F5.out; go_simp)) (
    ResL.cons (OpRes.val (by have a15 := hL.at 4 rfl; go_simp)) (
    ResL.cons (OpRes.val (by have a19 := hL.at 8 rfl; go_simp)) (
    ResL.nil))))))))))
  intro V hV
  clear hL
  obtain ⟨gg, hFF⟩ : ∃ gg : Nat → Value, FF = putL [(12, gg 12), (13, gg 13), (14, gg 14), (15, gg 15), (16, gg 16), (17, gg 17), (18, gg 18), (19, gg 19), (2, .int .i64 (f : Int)), (3, .int .i64 (i : Int))] AA := ⟨fun k => FF.tmps.getD k undef, by rw [HF.out, HA.out]; kernel_rfl⟩
  clear HF
  rw [HA.out] at hFF; clear HA
  simp only [putL, Act.put, List.setIfInBounds_toArray, List.set_cons_zero, List.set_cons_succ] at hFF
  subst hFF
  refine wpList_nil ?_
  have HB3 := Lib.hid (below_next HB2.out hV); clear hV
  go_wp2_with fail
  go_ret2
  exact ⟨rfl, HB3.out⟩
set_option maxRecDepth 100000 in
set_option maxHeartbeats 8000000 in
theorem events_own {w : World} {ρ : Nat → Option Role} {r n0 : Nat} {gp : PrG} {s : MS} (h : Runs w ρ r n0 gp s) (hl : s.evs.length ≤ 1000000) :
    Calls Tryz.prog 26 #[.pointer (some ⟨r, 0, none⟩)] w fun e w' => ∃ A c, e = .returned (.slice A s.evs.length c) ∧ w'.ownsRow w.heap.size 52 2 (.slice A s.evs.length c) s.evs.length (s.evs.flatMap evC) ∧ Below w.heap.size w w' := by
  obtain ⟨G, rfl, rfl, rfl, h⟩ := h
  obtain ⟨A, c, hv⟩ := own_formM h.erow
  have c6 : w.cell? ⟨G.r, 6, none⟩ = some (.slice A s.evs.length c) := (h.run.cell 6).trans (by simp [RG.cells, hv])
  have lr := h.run.lt
  have he := h.erow
  rw [hv] at he
  have hev : EvS w (.slice A s.evs.length c) s.evs := rows_ownM evC 2 (fun _ => rfl) he rfl fun b o x _ hq => ⟨hq 0 (by omega), hq 1 (by omega)⟩
  have hcl := rows_cells evC 2 (by decide) (fun _ => rfl) hev rfl (fun b o x hx q hq => by
    match q, hq with
    | 0, _ => exact hx.c0
    | 1, _ => exact hx.c1) (fun x _ u hu => by
    simp only [evC, List.mem_cons, List.not_mem_nil, or_false] at hu
    rcases hu with rfl | rfl <;> rfl)
  have CL := Lib.hid (clone70 A s.evs.length c _ w hcl hl)
  clear h hv he hev hcl
  go_enter Tryz.func26, Tryz.ntmps26
  go_wp2_with fail
  refine CL.out.mono ?_
  rintro e w1 ⟨v', rfl, ho, hb⟩
  obtain ⟨A2, c2, hv2⟩ := own_formM ho
  subst hv2
  have HO := Lib.hid ho; have HB := Lib.hid hb
  clear ho hb CL
  go_wp2_with fail
  go_ret
  exact ⟨A2, c2, rfl, HO.out, HB.out⟩
theorem ev_own {w : World} {B n : Nat} {v : Value} {l : List (Nat × Int)} (h : w.ownsRow B 52 2 v n (l.flatMap evC)) (hn : n = l.length) : EvS w v l :=
  rows_ownM evC 2 (fun _ => rfl) h hn fun b o x _ hq => ⟨hq 0 (by omega), hq 1 (by omega)⟩
theorem events_any {w : World} {ρ : Nat → Option Role} {r n0 : Nat} {gp : PrG} {s : MS} (h : Runs w ρ r n0 gp s) (hl : s.evs.length ≤ 1000000) :
    Calls Tryz.prog 26 #[.pointer (some ⟨r, 0, none⟩)] w fun e w' => ∃ A c, e = .returned (.slice A s.evs.length c) ∧ EvS w' (.slice A s.evs.length c) s.evs ∧ Below w.heap.size w w' :=
  (events_own h hl).mono fun _ _ ⟨A, c, h1, h2, h3⟩ => ⟨A, c, h1, ev_own h2 rfl, h3⟩
end Go.Proofs.YtgdibfnpkcdiiaaGreatDoor

/- few (law17): is a program small enough? By an AI agent. -/
namespace Go.Proofs.YtgdibfnpkcdiiaaGreatDoor
open Go.RowKit

def fewGoV (n : Nat) : List FnP → Bool
  | [] => true
  | f :: l => decide (n + f.code.length ≤ 300) && fewIns f.code && fewGoV (n + f.code.length) l
def fewV (p : PrW) : Bool := decide (p.arrays.length ≤ 30) && decide (p.fns.length ≤ 70) && fewGoV 0 p.fns
theorem fewGoV_drop {l : List FnP} {i n : Nat} (h : i < l.length) : fewGoV n (l.drop i) = (decide (n + (l[i]).code.length ≤ 300) && fewIns (l[i]).code && fewGoV (n + (l[i]).code.length) (l.drop (i + 1))) := by
  rw [List.drop_eq_getElem_cons h]; rfl

set_option maxRecDepth 100000 in
set_option maxHeartbeats 8000000 in
theorem fewv_any (g : PrG) (w : World) (h : PrR w g) : Calls Tryz.prog 23 #[prV g] w fun e w' => e = .returned (.bool (fewV g.p)) ∧ Below w.heap.size w w' := by
  obtain ⟨p, av, fv, l⟩ := g
  obtain ⟨ha, hf, he⟩ := h
  obtain ⟨A, ca, hav, hca, _⟩ := ha
  obtain ⟨F, cf, hfv, hcf, hf⟩ := hf
  dsimp only at hav hfv hcf hf he hca
  subst hav; subst hfv
  obtain ⟨na, hna⟩ : ∃ n, n = p.arrays.length := ⟨_, rfl⟩
  obtain ⟨nl, hnl⟩ : ∃ n, n = l.length := ⟨_, rfl⟩
  have hfl : p.fns.length = nl := by rw [← he, List.length_map, hnl]
  have HNA := Lib.hid hna; have HNL := Lib.hid hnl; have HE := Lib.hid he
  have hb0 : Below w.heap.size w (w.alloc (.cells #[.slice A na ca, .slice F nl cf, .int .i64 p.main] 25)) := (Below.refl _ _).alloc (Nat.le_refl _) _
  have HB0 := Lib.hid hb0
  have HF := Lib.hid (show l = [] ∨ ∃ b o, F = some ⟨b, o, none⟩ ∧ ∀ i x, l[i]? = some x → fnAt (w.alloc (.cells #[.slice A na ca, .slice F nl cf, .int .i64 p.main] 25)) b (o + i * 4) x from hf.imp id fun ⟨b, o, e, k⟩ => ⟨b, o, e, fun i x hx => (k i x hx).below hb0⟩)
  unfold prV
  dsimp only
  rw [← hna, ← hnl]
  have hfew : fewV p = (decide (na ≤ 30) && decide (nl ≤ 70) && fewGoV 0 p.fns) := by rw [fewV, ← hna, hfl]
  have HFEW := Lib.hid hfew
  clear hf hna hnl he hb0 hfew hca hcf
  go_enter Tryz.func23, Tryz.ntmps23
  by_cases h1 : na ≤ 30
  case neg =>
    have q1 : decide ((30 : Int) < (na : Int)) = true := decide_eq_true (by omega)
    go_wp2_with fail
    go_ret
    exact ⟨ret_b (by rw [HFEW.out, decide_eq_false h1]; rfl), HB0.out⟩
  case pos =>
    have q1 : decide ((30 : Int) < (na : Int)) = false := decide_eq_false (by omega)
    by_cases h2 : nl ≤ 70
    case neg =>
      have q2 : decide ((70 : Int) < (nl : Int)) = true := decide_eq_true (by omega)
      go_wp2_with fail
      go_ret
      exact ⟨ret_b (by rw [HFEW.out, decide_eq_false h2]; simp), HB0.out⟩
    case pos =>
      have q2 : decide ((70 : Int) < (nl : Int)) = false := decide_eq_false (by omega)
      go_wp2_with fail
      have k0 : (w.alloc (.cells #[.slice A na ca, .slice F nl cf, .int .i64 p.main] 25)).cell? ⟨w.heap.size, 0, none⟩ = some (.slice A na ca) := (Blk.new w 25 #[.slice A na ca, .slice F nl cf, .int .i64 p.main]).cell 0
      have k1 : (w.alloc (.cells #[.slice A na ca, .slice F nl cf, .int .i64 p.main] 25)).cell? ⟨w.heap.size, 1, none⟩ = some (.slice F nl cf) := (Blk.new w 25 #[.slice A na ca, .slice F nl cf, .int .i64 p.main]).cell 1
      go_loopg [3, 4] nl (fun gk v3 v4 wr => ∃ i m : Nat, i ≤ nl ∧ nl - i ≤ gk ∧ v4 = .int .i64 i ∧ m ≤ 300 ∧ v3 = .int .i64 m ∧ wr = w.alloc (.cells #[.slice A na ca, .slice F nl cf, .int .i64 p.main] 25) ∧ Hid (fewGoV 0 p.fns = fewGoV m (p.fns.drop i)))
      case atStart => exact ⟨0, 0, Nat.zero_le _, Nat.le_refl _, rfl, by omega, rfl, rfl, Lib.hid rfl⟩
      case round =>
        obtain ⟨i, m, hi, hgk, rfl, hm, rfl, rfl, HG⟩ := hrel
        by_cases hlt : i < nl
        case neg =>
          have q3 : decide ((i : Int) < (nl : Int)) = false := decide_eq_false (by omega)
          have hyes : fewGoV 0 p.fns = true := by
            rw [HG.out, List.drop_of_length_le (by rw [hfl]; omega)]; rfl
          have HY := Lib.hid hyes
          clear hyes
          go_wp2_with fail
          go_ret
          exact ⟨ret_b (by rw [HFEW.out, decide_eq_true h1, decide_eq_true h2, HY.out]; rfl), HB0.out⟩
        case pos =>
          have q3 : decide ((i : Int) < (nl : Int)) = true := decide_eq_true (by omega)
          have hil : i < l.length := by rw [← HNL.out]; exact hlt
          obtain ⟨x, hx⟩ : ∃ x, l[i]? = some x := ⟨_, List.getElem?_eq_getElem hil⟩
          have hfi : i < p.fns.length := by rw [hfl]; exact hlt
          have hxf : p.fns[i] = x.fn := by
            have : (l.map (·.fn))[i]? = some x.fn := by rw [List.getElem?_map, hx]; rfl
            rw [HE.out, List.getElem?_eq_getElem hfi] at this
            injection this
          have hdrop := fewGoV_drop (n := m) hfi
          rw [hxf] at hdrop
          obtain ⟨b, o, rfl, hat⟩ : ∃ b o, F = some ⟨b, o, none⟩ ∧ fnAt (w.alloc (.cells #[.slice A na ca, .slice F nl cf, .int .i64 p.main] 25)) b (o + i * 4) x := by
            rcases HF.out with rfl | ⟨b, o, e, k⟩
            · simp at hx
            · exact ⟨b, o, e, k i x hx⟩
          obtain ⟨x0, x1, x2, x3, xc, xe⟩ := hat
          obtain ⟨C, cc, hxv, hcc, xr⟩ := xc
          rw [hxv] at x3
          have lb := cell_lt' x0
          obtain ⟨nc, hnc⟩ : ∃ n, n = x.l.length := ⟨_, rfl⟩
          have hcl : x.fn.code.length = nc := by rw [← xe, List.length_map, hnc]
          rw [hcl] at hdrop
          rw [← hnc] at x3
          have HD := Lib.hid hdrop; have HXE := Lib.hid xe; have HNC := Lib.hid hnc; have HXR := Lib.hid xr; have HHX := Lib.hid hx
          clear hdrop xe hnc xr hx hxv hcc hxf HF
          by_cases h4 : m + nc ≤ 300
          case neg =>
            have q4 : decide ((300 : Int) - (m : Int) < (nc : Int)) = true := decide_eq_true (by omega)
            go_wp2_with fail
            go_ret
            exact ⟨ret_b (by rw [HFEW.out, HG.out, HD.out, decide_eq_false h4]; simp), HB0.out⟩
          case pos =>
            have q4 : decide ((300 : Int) - (m : Int) < (nc : Int)) = false := decide_eq_false (by omega)
            go_wp2_with fail
            obtain ⟨ko, hko⟩ : ∃ ko, gk = ko + 1 := ⟨gk - 1, by omega⟩
            subst hko
            go_loopg [5] nc (fun gk v5 wr => ∃ k : Nat, k ≤ nc ∧ nc - k ≤ gk ∧ v5 = .int .i64 k ∧ wr = (w.alloc (.cells #[.slice A na ca, .slice (some ⟨b, o, none⟩) nl cf, .int .i64 p.main] 25)) ∧ Hid (fewIns x.fn.code = fewIns (x.fn.code.drop k)))
            case atStart => exact ⟨0, Nat.zero_le _, Nat.le_refl _, rfl, rfl, Lib.hid rfl⟩
            case round =>
              obtain ⟨k, hk, hgk2, rfl, rfl, HI⟩ := hrel
              by_cases hlk : k < nc
              case neg =>
                have q6 : decide ((k : Int) < (nc : Int)) = false := decide_eq_false (by omega)
                have hall : fewIns x.fn.code = true := by rw [HI.out, List.drop_of_length_le (by omega)]; rfl
                have HG2 := Lib.hid (show fewGoV 0 p.fns = fewGoV (m + nc) (p.fns.drop (i + 1)) by rw [HG.out, HD.out, hall, decide_eq_true h4]; simp)
                clear hall
                go_wp2_with fail
                go_roundg ko
                case measure => omega
                case rel => exact ⟨i + 1, m + nc, by omega, by omega, by simp, by omega, by simp, rfl, HG2⟩
              case pos =>
                have q6 : decide ((k : Int) < (nc : Int)) = true := decide_eq_true (by omega)
                have hkl : k < x.l.length := by rw [← HNC.out]; exact hlk
                obtain ⟨y, hy⟩ : ∃ y, x.l[k]? = some y := ⟨_, List.getElem?_eq_getElem hkl⟩
                have hkc : k < x.fn.code.length := by omega
                have hyf : x.fn.code[k] = y.1 := by
                  have : (x.l.map (·.1))[k]? = some y.1 := by rw [List.getElem?_map, hy]; rfl
                  rw [HXE.out, List.getElem?_eq_getElem hkc] at this
                  injection this
                have hdr := fewIns_drop hkc
                rw [hyf] at hdr
                obtain ⟨b2, o2, rfl, hat⟩ : ∃ b2 o2, C = some ⟨b2, o2, none⟩ ∧ insAt (w.alloc (.cells #[.slice A na ca, .slice (some ⟨b, o, none⟩) nl cf, .int .i64 p.main] 25)) b2 (o2 + k * 10) y := by
                  rcases HXR.out with e | ⟨b2, o2, e, q⟩
                  · rw [e] at hy; simp at hy
                  · exact ⟨b2, o2, e, q k y hy⟩
                obtain ⟨y0, y1, y2, y3, y4, y5, y6, y7, y8, y9, ya⟩ := hat
                obtain ⟨D, cd, hyv, hcd, yr⟩ := ya
                rw [hyv] at y6
                have lb2 := cell_lt' y0
                obtain ⟨ng, hng⟩ : ∃ n, n = y.1.args.length := ⟨_, rfl⟩
                rw [← hng] at y6 hdr
                have HDR := Lib.hid hdr
                clear hdr hyv hcd yr hy hyf hng
                by_cases h6 : ng ≤ 20
                case neg =>
                  have q7 : decide ((20 : Int) < (ng : Int)) = true := decide_eq_true (by omega)
                  go_wp2_with fail
                  go_ret
                  exact ⟨ret_b (by rw [HFEW.out, HG.out, HD.out, HI.out, HDR.out, decide_eq_false h6]; simp), HB0.out⟩
                case pos =>
                  have q7 : decide ((20 : Int) < (ng : Int)) = false := decide_eq_false (by omega)
                  have HI2 := Lib.hid (show fewIns x.fn.code = fewIns (x.fn.code.drop (k + 1)) by rw [HI.out, HDR.out, decide_eq_true h6]; rfl)
                  go_wp2_with fail
                  cases gk with
                  | zero => omega
                  | succ gk =>
                    go_roundg gk
                    case measure => omega
                    case rel => exact ⟨k + 1, by omega, by omega, by simp, rfl, HI2⟩
end Go.Proofs.YtgdibfnpkcdiiaaGreatDoor

/- Two runs beside one another. By an AI agent. -/
namespace Go.Proofs.YtgdibfnpkcdiiaaGreatDoor
open Go.RowKit

theorem Runs.dom {w : World} {ρ : Nat → Option Role} {r n0 : Nat} {gp : PrG} {s : MS} (h : Runs w ρ r n0 gp s) : ∀ k q, ρ k = some q → n0 ≤ k ∧ k < w.heap.size := by
  obtain ⟨G, rfl, rfl, rfl, h⟩ := h
  exact h.dom
theorem Runs.other {w w' : World} {σ ρ ρ' : Nat → Option Role} {r n0 : Nat} {gp : PrG} {s : MS} (h : Runs w σ r n0 gp s) (k : Kp ρ ρ' w w') (hd : ∀ b, σ b = none ∨ ρ b = none) : Runs w' σ r n0 gp s ∧ ∀ b, σ b = none ∨ ρ' b = none := by
  obtain ⟨G, rfl, rfl, rfl, h⟩ := h
  exact ⟨⟨G, rfl, rfl, rfl, h.other k hd⟩, other_dis h k hd⟩
/-- A run at work since w0: where it lies, what it has done. -/
structure At (w0 w : World) (ρ : Nat → Option Role) (r : Nat) (p : PrW) (s : MS) : Prop where
  run : ∃ n0 gp, gp.p = p ∧ w0.heap.size ≤ n0 ∧ Runs w ρ r n0 gp s
  ok : MOk p s
  rt : rightW p = true
  num : ∀ x : In, (∃ f ∈ p.fns, x ∈ f.code) → I64 x.n
  few : s.steps ≤ 10000
section
variable {w0 w w' : World} {ρ ρ' σ : Nat → Option Role} {r : Nat} {p : PrW} {s : MS}
theorem At.below (h : At w0 w ρ r p s) (hb : Below w.heap.size w w') : At w0 w' ρ r p s := by
  obtain ⟨n0, gp, h1, h2, h3⟩ := h.run
  exact ⟨⟨n0, gp, h1, h2, h3.below hb⟩, h.ok, h.rt, h.num, h.few⟩
theorem At.dom (h : At w0 w ρ r p s) : ∀ k q, ρ k = some q → w0.heap.size ≤ k ∧ k < w.heap.size := fun k q e => by
  obtain ⟨n0, gp, h1, h2, h3⟩ := h.run
  have := h3.dom k q e
  omega
theorem At.other (h : At w0 w σ r p s) (k : Kp ρ ρ' w w') (hd : ∀ b, σ b = none ∨ ρ b = none) : At w0 w' σ r p s ∧ ∀ b, σ b = none ∨ ρ' b = none := by
  obtain ⟨n0, gp, h1, h2, h3⟩ := h.run
  exact ⟨⟨⟨n0, gp, h1, h2, (h3.other k hd).1⟩, h.ok, h.rt, h.num, h.few⟩, (h3.other k hd).2⟩
/-- What is kept by a call of a run. -/
theorem At.kp (h : At w0 w ρ r p s) (k : Kp ρ ρ' w w') (hb : Below w0.heap.size w0 w) : Below w0.heap.size w0 w' :=
  hb.trans (k.to_below hb.size fun b q e => (h.dom b q e).1)
theorem At.go (h : At w0 w ρ r p s) (N : Int) (hN : N ≤ 1000) (hf : (runM doW p N.toNat s).steps ≤ 10000) :
    Calls Tryz.prog 25 #[.pointer (some ⟨r, 0, none⟩), .int .i64 N] w fun e w' => e = .returned (.int .i64 (cntM doW p N.toNat s : Int)) ∧ ∃ ρ', At w0 w' ρ' r p (runM doW p N.toNat s) ∧ Kp ρ ρ' w w' := by
  obtain ⟨n0, gp, rfl, h2, h3⟩ := h.run
  have ro : RunOk gp := ⟨h.rt, h.num⟩
  refine (go_any h3 h.ok ro N (by omega) (by have := h.few; omega)).mono ?_
  rintro e w' ⟨rfl, ρ', hr, hk⟩
  exact ⟨rfl, ρ', ⟨⟨n0, gp, rfl, h2, hr⟩, ro.run _ h.ok, h.rt, h.num, hf⟩, hk⟩
theorem At.ended (h : At w0 w ρ r p s) : Calls Tryz.prog 27 #[.pointer (some ⟨r, 0, none⟩)] w fun e w' => e = .returned (.bool s.ended) ∧ Below w.heap.size w w' := by
  obtain ⟨n0, gp, rfl, h2, h3⟩ := h.run
  exact ended_any h3
theorem At.steps (h : At w0 w ρ r p s) : Calls Tryz.prog 28 #[.pointer (some ⟨r, 0, none⟩)] w fun e w' => e = .returned (.int .i64 (s.steps : Int)) ∧ Below w.heap.size w w' := by
  obtain ⟨n0, gp, rfl, h2, h3⟩ := h.run
  exact steps_any h3
theorem At.depth (h : At w0 w ρ r p s) : Calls Tryz.prog 31 #[.pointer (some ⟨r, 0, none⟩)] w fun e w' => e = .returned (.int .i64 ((s.base.length + 1 : Nat) : Int)) ∧ Below w.heap.size w w' := by
  obtain ⟨n0, gp, rfl, h2, h3⟩ := h.run
  exact depth_any h3
theorem At.at_ (h : At w0 w ρ r p s) : Calls Tryz.prog 32 #[.pointer (some ⟨r, 0, none⟩)] w fun e w' => e = .returned (.tuple #[.int .i64 (s.top.f : Int), .int .i64 (s.top.i : Int)]) ∧ Below w.heap.size w w' := by
  obtain ⟨n0, gp, rfl, h2, h3⟩ := h.run
  exact at_any h3 (by have := h.ok.many.2; have := h.few; omega)
theorem At.events (h : At w0 w ρ r p s) : Calls Tryz.prog 26 #[.pointer (some ⟨r, 0, none⟩)] w fun e w' => ∃ A c, e = .returned (.slice A s.evs.length c) ∧ EvS w' (.slice A s.evs.length c) s.evs ∧ Below w.heap.size w w' := by
  obtain ⟨n0, gp, rfl, h2, h3⟩ := h.run
  exact events_any h3 (by have := h.ok.many.1; have := h.few; omega)
theorem At.events_own (h : At w0 w ρ r p s) : Calls Tryz.prog 26 #[.pointer (some ⟨r, 0, none⟩)] w fun e w' => ∃ A c, e = .returned (.slice A s.evs.length c) ∧ w'.ownsRow w.heap.size 52 2 (.slice A s.evs.length c) s.evs.length (s.evs.flatMap evC) ∧ Below w.heap.size w w' := by
  obtain ⟨n0, gp, rfl, h2, h3⟩ := h.run
  exact _root_.Go.Proofs.YtgdibfnpkcdiiaaGreatDoor.events_own h3 (by have := h.ok.many.1; have := h.few; omega)
/-- A row that lies in no block of a run. -/
structure Off (w : World) (ρ : Nat → Option Role) (v : Value) : Prop where
  off : ∀ k, v.ownBlock = some k → k < w.heap.size ∧ ρ k = none
theorem Off.below {v : Value} (h : Off w ρ v) (hb : Below w.heap.size w w') : Off w' ρ v := ⟨fun k e => ⟨Nat.lt_of_lt_of_le (h.off k e).1 hb.size, (h.off k e).2⟩⟩
theorem Off.kp {v : Value} (h : Off w ρ v) (k : Kp ρ ρ' w w') : Off w' ρ' v := ⟨fun b e => ⟨Nat.lt_of_lt_of_le (h.off b e).1 k.size, k.own b (h.off b e).1 (h.off b e).2⟩⟩
theorem Off.size {v : Value} (h : Off w σ v) (k : Kp ρ ρ' w w') : Off w' σ v := ⟨fun b e => ⟨Nat.lt_of_lt_of_le (h.off b e).1 k.size, (h.off b e).2⟩⟩
theorem own_kp {v : Value} {B e z n : Nat} {xs : List Value} (h : w.ownsRow B e z v n xs) (f : Off w ρ v) (k : Kp ρ ρ' w w') : w'.ownsRow B e z v n xs := own_keep h fun b c => k.block b (f.off b c).1 (f.off b c).2
theorem At.off (h : At w0 w ρ r p s) {v : Value} (hv : ∀ k, v.ownBlock = some k → w.heap.size ≤ k ∧ k < w'.heap.size) : Off w' ρ v := ⟨fun k e => ⟨(hv k e).2, by
  cases c : ρ k with
  | none => rfl
  | some q => have := (h.dom k q c).2; have := (hv k e).1; omega⟩⟩
theorem At.step_end (h : At w0 w ρ r p s) (he : s.ended = true) : Calls Tryz.prog 33 #[.pointer (some ⟨r, 0, none⟩)] w fun e w' => e = .returned (.int .i64 4) ∧ Below w.heap.size w w' := by
  obtain ⟨n0, gp, rfl, h2, h3⟩ := h.run
  exact stepr_done h3 he
end
theorem new_at (w0 : World) (g : PrG) (w : World) (hg : PrR w g) (ok : PrOk g.p) (rt : rightW g.p = true) (I : Option Addr) (ci : Nat) (inp : List Int) (hin : IntsV w (.slice I inp.length ci) inp) (hil : inp.length ≤ 1000) (h64 : ∀ n ∈ inp, I64 n) (hw : w0.heap.size ≤ w.heap.size) :
    Calls Tryz.prog 24 #[prV g, .slice I inp.length ci] w fun e w' => ∃ r ρ, e = .returned (.tuple #[.pointer (some ⟨r, 0, none⟩), .int .i64 0]) ∧ At w0 w' ρ r g.p (newM g.p inp) ∧ Below w.heap.size w w' ∧ (∀ k q, ρ k = some q → w.heap.size ≤ k) := by
  refine (new_any g w hg ((right_sz rt).prs ok) rt I ci inp hin hil).mono ?_
  rintro e w' ⟨r, ρ, gp, rfl, hp, hr, hb⟩
  refine ⟨r, ρ, rfl, ⟨⟨_, gp, hp, hw, hr⟩, new_ok (right_good rt) h64, rt, fun x ⟨f, hf, hx⟩ => ((ok.fns f hf).code x hx).n, by show (0 : Nat) ≤ _; omega⟩, hb, fun k q e => (hr.dom k q e).1⟩
theorem fewv_fns : ∀ (l : List FnP) (n : Nat), fewGoV n l = true → ∀ f ∈ l, fewIns f.code = true ∧ f.code.length ≤ 300
  | [], _, _, _, h => by simp at h
  | f :: l, n, h, g, hg => by
    simp only [fewGoV, Bool.and_eq_true, decide_eq_true_eq] at h
    obtain ⟨⟨h1, h3⟩, h4⟩ := h
    rcases List.mem_cons.1 hg with rfl | hg
    · exact ⟨h3, by omega⟩
    · exact fewv_fns l _ h4 g hg
theorem fewv_prs {p : PrW} (ok : PrOk p) (hf : fewV p = true) : PrS p := by
  simp only [fewV, Bool.and_eq_true, decide_eq_true_eq] at hf
  obtain ⟨⟨h1, h2⟩, h3⟩ := hf
  have hc := fewv_fns p.fns 0 h3
  exact ⟨by omega, by omega, fun f hf => by have := (hc f hf).2; omega, fun f hf x hx => by
    have := List.all_eq_true.1 (hc f hf).1 x hx
    simp at this; omega, fun f hf x hx => ((ok.fns f hf).code x hx).op⟩
end Go.Proofs.YtgdibfnpkcdiiaaGreatDoor
