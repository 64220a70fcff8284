/- The law of append; copying. No condition. -/
import Derived.Test.YtgdibfnpkcdiiaaGreatDoorEvN
namespace Go.Proofs.YtgdibfnpkcdiiaaGreatDoor
namespace Ev

section
variable {P : Program} {K : Kon} {o : Oper}

theorem run_app {t u : TypeId} {s x : Operand} (ho : o.op = .call { callee := .builtin .append, args := #[s, x], argTypes := #[t, u] }) (a : Act) (w : World) {v : Value} {w' : World} (h : (Builtin.append_ #[t, u] o.type #[a.eval s, a.eval x]).run P w = .ok v w') :
    (execOp a.eval o).run P w = .ok (.value v) w' := by
  simp [execOp, ho, resolve, invoke, builtin, h]

theorem oneCell_of_cells0 {K : Kon} {l : List Value} (hb : cells0B K l = true) : ∀ v ∈ l, v.oneCell' = true := fun v hv => by
  have h := List.all_eq_true.1 hb v hv
  cases v <;> first | rfl | (exfalso; exact absurd h (by simp only [cV]; decide))

/-- A new block, with room behind. -/
theorem fresh_post {g : Gh} {st : St} {w : World} (M1 : Nat) (hh : HR g { st with M := M1 } w) {n size c cap z : Nat} {st' : St} {el : TypeId} {cs rest : Array Value} (e : newSl n size M1 c st = .ok z st') (he : size < 256) (hcs : cs.size = n * size) (hc : c < 2 ^ (128 * (n * size)))
    (hv : ∀ j, j < n * size → VR g (gt c j) (cs.getD j undef)) (hcap : n ≤ cap) (hrest : rest.size = (cap - n) * size) (hro : ∀ i, i < rest.size → (rest.getD i undef).oneCell' = true) (fr : Nat × Nat) (hfr : Thaw fr (cs ++ rest).size) :
    ∃ g', Post g st w g' st' (w.drew.alloc (.cells (cs ++ rest) el fr)) z (.slice (some ⟨w.heap.size, 0, none⟩) n cap) := by
  obtain ⟨h1, h2, h3, h4, h5⟩ := newSl_ok e
  have hd : HR g { st with M := M1 } w.drew := HR.congr (w := w) rfl hh
  have hsz : (cs ++ rest).size = cap * size := by
    rw [Array.size_append, hcs, hrest, ← Nat.add_mul]
    congr 1
    omega
  have hget : ∀ j, (cs ++ rest).getD j undef = if j < n * size then cs.getD j undef else rest.getD (j - n * size) undef := fun j => by
    rw [Array.getD_eq_getD_getElem?, Array.getElem?_append, hcs]
    split <;> rw [← Array.getD_eq_getD_getElem?]
  have hle : n * size ≤ cap * size := Nat.mul_le_mul_right _ hcap
  have hsub : (cap - n) * size = cap * size - n * size := Nat.sub_mul _ _ _
  obtain ⟨r1, r2⟩ := hd.alloc (cs ++ rest) el fr (n := n * size) (cw := c) (by omega) hc (fun j hj => by rw [hget, if_pos hj]; exact hv j hj)
    (fun j hj => by
      rw [hget]
      by_cases hj2 : j < n * size
      · rw [if_pos hj2]; exact (hv j hj2).one
      · rw [if_neg hj2]; exact hro _ (by omega)) hfr
  have hf : Fr g w (g.put st.nM (.cells w.heap.size 0 (n * size) (cs ++ rest).size)) (w.drew.alloc (.cells (cs ++ rest) el fr)) := Fr.trans (Fr.drew g w (w.drawn + 1)) r2
  subst h5
  refine ⟨_, r1, hf, Ext.refl _ _, ?_, rfl, rfl⟩
  rw [h4]
  exact .cell _ _ (.sli st.nM (n * size) n size 0 w.heap.size 0 (cs ++ rest).size cap ⟨w.heap.size, 0, none⟩ h1 h3 h2 he (by show (g.put _ _).rho _ = _; rw [Gh.put_rho, if_pos rfl]; rfl) (by omega) hcap (.inr ⟨rfl, by omega⟩))

theorem opApp_ok {t u el : TypeId} {d : TypeDesc} {s x : Operand} {q : TypeInfo} {z : Value} (ho : o.op = .call { callee := .builtin .append, args := #[s, x], argTypes := #[t, u] }) (ht : P.underlying t = some (.slice el)) (hu : P.underlying u = some d)
    (hd : d = .string ∨ ∃ e', d = .slice e') (hq : P.info? el = some q) (hz : q.zero = some z) (hs : z.cells.size = q.size) (hb : cells0B K z.cells.toList = true) (h0 : 0 < q.size) (he : q.size < 256) (hby : q.bytes ≤ 1048576) :
    OpV P K o (opApp q.size (cOp K s) (cOp K x)) := fun g st a w x' st' hk hh hy e => by
  unfold opApp at e
  have hvs := hy s (by simp [ho, Op.operands, Call.operands])
  have hvx := hy x (by simp [ho, Op.operands, Call.operands])
  cases hsrc : appSrc q.size (rd st.T (cOp K x)) st with
  | none => rw [hsrc] at e; cases e
  | some qq =>
    obtain ⟨n, c⟩ := qq
    rw [hsrc] at e
    obtain ⟨s1, s2, s3, news, s4, s5, s6⟩ := appSrc_ok (P := P) hh hvx hsrc
    have hzone := zero_one (z := z) (oneCell_of_cells0 hb)
    dsimp only at e
    -- growing
    have grow : ∀ (M1 C : Nat) (ba : Option Addr) (L cap : Nat) (olds : Array Value), HR g { st with M := M1 } w → a.eval s = .slice ba L cap → L < 16777216 → cap < L + n → newSl (L + n) q.size M1 C st = .ok x' st' → olds.size = L * q.size →
        (∀ w' : World, w'.heap = w.heap → (Builtin.firstCells q.size L (.slice ba L cap)).run P w' = .ok olds w') → C < 2 ^ (128 * ((L + n) * q.size)) → (∀ j, j < (L + n) * q.size → VR g (gt C j) ((olds ++ news).getD j undef)) →
        ∃ g' w' v, ((execOp a.eval o).run P w = .ok (.value v) w' ∨ ((execOp a.eval o).run P w = .ok .skip w' ∧ v = undef)) ∧ Post g st w g' st' w' x' v ∧ (quietB P o.op = true → w' = w ∨ (g' = g ∧ st' = st ∧ Harm w w')) := by
      intro M1 C ba L cap olds g1 g2 g3 g4 g5 g6 g7 g8 g9
      have hfit : Builtin.nextslicecap (L + n) cap * q.bytes ≤ 281474976710656 := growslice_fits g4 (Nat.le_trans (Nat.mul_le_mul (show L + n ≤ 33554432 by omega) hby) (by decide))
      have hr := run_app_grow (P := P) ht hu hd hq hz o.type (xv := a.eval x) s1 g4 (by omega) hfit g7 s5
      have hge := grownCap_ge w (L + n) cap el
      obtain ⟨g', hp⟩ := fresh_post (el := el) (cs := olds ++ news) (rest := Builtin.zeroCells z.cells (grownCap w (L + n) cap el - (L + n))) M1 g1 g5 he (by rw [Array.size_append, g6, s4, Nat.add_mul]) g8 g9 hge
        (by rw [size_zeroCells, hs]) (fun i hi => hzone _ i hi) (0, 0) (.inl rfl)
      exact ⟨g', _, _, .inl (run_app ho a w (by rw [g2]; exact hr)), hp, fun q => absurd q (by simp [ho, quietB])⟩
    cases hn : Nat.beq n 0 with
    | true =>
      rw [hn, sel_true] at e
      obtain ⟨h1, e⟩ := sel_ok e
      injection e with e1 e2
      have hn := beq_t hn
      subst hn
      have hnews : news = #[] := Array.eq_empty_of_size_eq_zero (by rw [s4, Nat.zero_mul])
      subst hnews
      have f0 : (Builtin.firstCells q.size 0 (a.eval x)).run P w = .ok #[] w := s5 w rfl
      have key : ∀ (b : Option Addr) (l c : Nat), a.eval s = .slice b l c → l ≤ c → (execOp a.eval o).run P w = .ok (.value (a.eval s)) w := fun b l c hv hlc => by
        refine run_app ho a w ?_
        rw [hv]
        exact run_app_room (P := P) ht hu hd hq o.type (ba := b) s1 hlc f0 (fun a _ => rfl) (fun _ => rfl)
      subst e2
      rw [← e1]
      refine ⟨g, w, a.eval s, .inl ?_, .same hh hvs, fun q => absurd q (by simp [ho, quietB])⟩
      unfold slB at h1
      cases h2 : Nat.beq (Nat.mod (rd st.T (cOp K s)) 16) 7 with
      | true =>
        obtain ⟨blk, base, room, cap, ad, a1, a2, a3, a4, a5, a6, a7, a8, a9, a10⟩ := hvs.sli (beq_t h2)
        exact key _ _ _ a2 a9
      | false =>
        rw [h2, sel_false] at h1
        cases h3 : Nat.beq (rd st.T (cOp K s)) 6 with
        | true => exact key _ _ _ (hvs.nil (beq_t h3)) (Nat.le_refl _)
        | false =>
          rw [h3, sel_false] at h1
          obtain ⟨ad, a2⟩ := hvs.emp (beq_t h1)
          exact key _ _ _ a2 (Nat.le_refl _)
    | false =>
      rw [hn, sel_false] at e
      have hn := beq_f hn
      cases h2 : Nat.beq (Nat.mod (rd st.T (cOp K s)) 16) 7 with
      | true =>
        rw [h2, sel_true] at e
        obtain ⟨h3, e⟩ := sel_ok e
        obtain ⟨h4, e⟩ := sel_no e
        obtain ⟨h5, e⟩ := sel_no e
        have h3 := beq_t h3
        have h4 := beq_f h4
        have h5 := beq_f h5
        simp only [nA, nM] at e
        obtain ⟨blk, base, room, cap, ad, a1, a2, a3, a4, a5, a6, a7, a8, a9, a10⟩ := hvs.sli (beq_t h2)
        rw [h3] at a8 a10
        obtain ⟨cs, c1, c2, c3⟩ := sli_cells (P := P) hh a7 a8 a9 a10 (Nat.le_refl _)
        generalize so (rd st.T (cOp K s)) = q0 at *
        generalize sl (rd st.T (cOp K s)) = L at *
        generalize ps (rd st.T (cOp K s)) = s0 at *
        generalize pz (rd st.T (cOp K s)) = z0 at *
        have hsplit : (L + n) * q.size = L * q.size + n * q.size := Nat.add_mul _ _ _
        have hnpos : 0 < n * q.size := Nat.mul_pos (by omega) h0
        have hchl := ch_lt st.M (s0 + q0) (L * q.size)
        have hC : Ev.ad (ch st.M (s0 + q0) (L * q.size)) (L * q.size) c < 2 ^ (128 * ((L + n) * q.size)) := by rw [hsplit]; exact ad_lt hchl s3
        by_cases hroom : L + n ≤ cap
        · obtain ⟨rfl, hrm⟩ := a10.resolve_left (by omega)
          have hm : (L + n) * q.size ≤ cap * q.size := Nat.mul_le_mul_right _ hroom
          have hz0 : 0 < z0 := Nat.pos_of_ne_zero h5
          obtain ⟨w', r1, r2, r3⟩ := hh.growIn P (o := q0) (l := L * q.size) (n := n * q.size) (cw := c) a7 ⟨0, hz0, by rw [Nat.add_zero]; exact h4⟩ a8 (by omega) s3 news.toList (by rw [Array.length_toList, s4]) (fun i hi => by
            have := s6 i hi
            rwa [List.getD_eq_getElem?_getD, Array.getElem?_toList, ← Array.getD_eq_getD_getElem?])
          obtain ⟨n1, n2, n3, n4, n5⟩ := newSl_ok e
          have hrun := run_app_room (P := P) ht hu hd hq o.type (ba := some ⟨blk, base + q0, none⟩) s1 hroom (s5 w rfl) (fun a' ha => by
            injection ha with ha; subst ha
            rw [add_none, Nat.add_assoc]; exact r1) (fun h => by cases h)
          rw [hsplit] at n3 n4 n5
          rw [n5]
          refine ⟨_, w', _, .inl (run_app ho a w (by rw [a2]; exact hrun)), ⟨r2, r3, Ext.refl _ _, ?_, rfl, rfl⟩, fun q => absurd q (by simp [ho, quietB])⟩
          rw [n4]
          exact .cell _ _ (.sli st.nM _ (L + n) q.size 0 blk (base + q0) (room - q0) cap _ n1 n3 n2 he (by rw [Gh.put_rho, if_pos rfl]) (by omega) hroom (.inr ⟨rfl, by omega⟩))
        · have hkill := hh.kill a7
          refine grow _ _ (some ad) L cap cs hkill a2 a5 (by omega) e c1 (fun w' hw => c2 w' hw) hC (fun j hj => ?_)
          rw [gt_ad _ _ hchl, Array.getD_eq_getD_getElem?, Array.getElem?_append, c1]
          by_cases hj2 : j < L * q.size
          · rw [if_pos hj2, if_pos hj2, ← Array.getD_eq_getD_getElem?]; exact c3 j hj2
          · rw [if_neg hj2, if_neg hj2, ← Array.getD_eq_getD_getElem?]; exact s6 _ (by omega)
      | false =>
        rw [h2, sel_false] at e
        have fin : ∀ b : Option Addr, a.eval s = .slice b 0 0 → newSl n q.size st.M c st = .ok x' st' → ∃ g' w' v, ((execOp a.eval o).run P w = .ok (.value v) w' ∨ ((execOp a.eval o).run P w = .ok .skip w' ∧ v = undef)) ∧ Post g st w g' st' w' x' v ∧ (quietB P o.op = true → w' = w ∨ (g' = g ∧ st' = st ∧ Harm w w')) := fun b hv e => by
          refine grow st.M c b 0 0 #[] hh hv (by decide) (by omega) (by rw [Nat.zero_add]; exact e) (by rw [Nat.zero_mul]; rfl) (fun w' _ => ?_) (by rw [Nat.zero_add]; exact s3) (fun j hj => ?_)
          · cases b with
            | none => rfl
            | some ad => rw [Builtin.firstCells, Nat.zero_mul]; rfl
          · rw [Nat.zero_add] at hj
            rw [Array.empty_append]; exact s6 j hj
        cases h3 : Nat.beq (rd st.T (cOp K s)) 6 with
        | true =>
          rw [h3, sel_true] at e
          exact fin _ (hvs.nil (beq_t h3)) e
        | false =>
          rw [h3, sel_false] at e
          obtain ⟨h4, e⟩ := sel_ok e
          obtain ⟨ad, a2⟩ := hvs.emp (beq_t h4)
          exact fin _ a2 e
end
end Ev
end Go.Proofs.YtgdibfnpkcdiiaaGreatDoor
