/- Bodies. No condition. -/
import Derived.Test.YtgdibfnpkcdiiaaGreatDoorEwF
namespace Go.Proofs.YtgdibfnpkcdiiaaGreatDoor
namespace Ev

def exitOf : Nat → Exit
  | 0 => .normal
  | 1 => .ret
  | n + 2 => .exit n

section
variable {P : Program} {K : Kon} {X : Nat → Option Plan} {call : Nat → St → RS} {n : Nat}

theorem After.trans {g : Gh} {st : St} {w : World} {st1 : St} {w1 : World} {stF : St} {a' : Act} {w' : World} {g1 : Gh} (h1 : Fr g w g1 w1) (h2 : Ext st.R st.nR st1.R st1.nR) (k : After K n g1 st1 w1 stF a' w') : After K n g st w stF a' w' := by
  obtain ⟨g', e1, e2, e3, e4, e5⟩ := k
  exact ⟨g', e1, e2, h1.trans e3, h2.trans e4, e5⟩

def CodeA (P : Program) (K : Kon) (X : Nat → Option Plan) (call : Nat → St → RS) (n m : Nat) : Prop :=
  ∀ (c : Code) (g : Gh) (st : St) (w : World) (a : Act) (x : Nat) (stF : St) (Q : Exit → Act → World → Prop), okX P K X n c = true → K.In g → HR g st w → FR g st a n → evalM call m (cCode P K X n c) st = .ok x stF →
    (∀ w' a', After K n g st w stF a' w' → Q (exitOf x) a' w') → c.wp P Q a w
def CodeB (P : Program) (K : Kon) (X : Nat → Option Plan) (call : Nat → St → RS) (n m : Nat) : Prop :=
  ∀ (c : Code) (g : Gh) (st : St) (w : World) (a : Act) (x : Nat) (stF : St) (Q : Exit → Act → World → Prop), okX P K X n c = true → K.In g → HR g st w → FR g st a n → evalM call m (.loop (cCode P K X n c)) st = .ok x stF →
    (∀ w' a', After K n g st w stF a' w' → Q (exitOf x) a' w') → Code.rounds P c Q m a w

theorem exit_then {x : Nat} (h : x ≠ 0) (N : Act → World → Prop) (Q : Exit → Act → World → Prop) (a : Act) (w : World) : Exit.then N Q (exitOf x) a w = Q (exitOf x) a w := by
  match x, h with
  | 1, _ => rfl
  | k + 2, _ => rfl

theorem reg_ok {l : List Stp} {st : St} {x : Nat} {stF : St} (e : eReg call l st = .ok x stF) : x = 0 ∧ ∃ y, runS call l st = .ok y stF := by
  unfold eReg at e
  cases h : runS call l st with
  | no => rw [h] at e; cases e
  | ok y s =>
    rw [h] at e
    injection e with e1 e2
    subst e2
    exact ⟨e1.symm, y, rfl⟩

theorem drawP_kind (P : Program) (K : Kon) (ops : Array Oper) (p : Plan) : cDrawP P K ops p = .bad ∨ ∃ l, cDrawP P K ops p = .reg l := by
  unfold cDrawP
  split
  · exact .inr ⟨_, rfl⟩
  · exact .inl rfl
theorem draw_plan {P : Program} {K : Kon} {n : Nat} {ops : Array Oper} : cDraw P K n ops = .bad ∨ ∃ p, chkP P K n ops p = true ∧ cDraw P K n ops = cDrawP P K ops p := by
  unfold cDraw
  dsimp only
  split
  · rename_i h
    exact .inr ⟨_, h, rfl⟩
  · exact .inl rfl

theorem okX_seq {a b : Code} (h : okX P K X n (.seq a b) = true) : okX P K X n a = true ∧ okX P K X n b = true := by
  have h : (okX P K X n a && okX P K X n b) = true := h
  simpa using h
theorem okX_cond {c : Operand} {a b : Code} (h : okX P K X n (.cond c a b) = true) : okX P K X n a = true ∧ okX P K X n b = true := by
  have h : (okX P K X n a && okX P K X n b) = true := h
  simpa using h

theorem codes_ok (hm : P.follows .mixedOrders = true) (hc : CallV P K call) : ∀ m, CodeA P K X call n m ∧ CodeB P K X call n m
  | 0 => ⟨(fun _ _ _ _ _ _ _ _ _ _ _ _ e _ => nomatch e), (fun _ _ _ _ _ _ _ _ _ _ _ _ e _ => nomatch e)⟩
  | m + 1 => by
    obtain ⟨ihA, ihB⟩ := codes_ok hm hc m
    have hB : CodeB P K X call n (m + 1) := fun c g st w a x stF Q hx hk hh hf e hQ => by
      change eLoop (evalM call m) (cCode P K X n c) st = .ok x stF at e
      unfold eLoop at e
      rw [rounds_succ]
      cases h1 : evalM call m (cCode P K X n c) st with
      | no => rw [h1] at e; cases e
      | ok x1 st1 =>
        rw [h1] at e
        dsimp only at e
        refine ihA c g st w a x1 st1 _ hx hk hh hf h1 fun w1 a1 h2 => ?_
        cases h3 : Nat.beq x1 0 with
        | true =>
          rw [h3, sel_true] at e
          have h3 := beq_t h3
          subst h3
          show Code.rounds P c Q m a1 w1
          obtain ⟨g1, e1, e2, e3, e4, e5⟩ := h2
          exact ihB c g1 st1 w1 a1 x stF Q hx e1 e2 e5 e fun w' a' h => hQ w' a' (h.trans e3 e4)
        | false =>
          rw [h3, sel_false] at e
          injection e with e6 e7
          subst e6; subst e7
          rw [exit_then (beq_f h3)]
          exact hQ w1 a1 h2
    refine ⟨fun c g st w a x stF Q hx hk hh hf e hQ => ?_, hB⟩
    have self : After K n g st w st a w := ⟨g, hk, hh, Fr.refl _ _, Ext.refl _ _, hf⟩
    cases c with
    | skip =>
      change RS.ok 0 st = .ok x stF at e
      injection e with e1 e2
      subst e1; subst e2
      exact wp_skip (hQ w a self)
    | region id ops d =>
      cases d with
      | true =>
        have go : ∀ p, chkP P K n ops p = true → evalM call (m + 1) (cDrawP P K ops p) st = .ok x stF → (Code.region id ops true).wp P Q a w := fun p hp e => by
          rcases drawP_kind P K ops p with hmc | ⟨l, hmc⟩
          · rw [hmc] at e; cases e
          · rw [hmc] at e
            change eReg call l st = .ok x stF at e
            obtain ⟨hx0, y, e1⟩ := reg_ok e
            subst hx0
            exact drawn_ok hm hc hk hh hf hp hmc e1 hQ
        change evalM call (m + 1) (match X id with
          | some p => cDrawP P K ops p
          | none => cDraw P K n ops) st = .ok x stF at e
        change (match X id with
          | some p => chkP P K n ops p
          | none => true) = true at hx
        cases hX : X id with
        | some p =>
          rw [hX] at e hx
          exact go p hx e
        | none =>
          rw [hX] at e
          dsimp only at e
          rcases draw_plan (P := P) (K := K) (n := n) (ops := ops) with hb | ⟨p, hp, hb⟩
          · rw [hb] at e; cases e
          · rw [hb] at e; exact go p hp e
      | false =>
        change evalM call (m + 1) (if dstB n ops = true then (match cReg P K ops ops.toList with
          | some l => .reg l
          | none => .bad) else .bad) st = .ok x stF at e
        split at e
        · rename_i hd
          split at e
          · rename_i l hl
            change eReg call l st = .ok x stF at e
            obtain ⟨hx0, y, e1⟩ := reg_ok e
            subst hx0
            exact plain_ok hc hk hh hf hd hl e1 hQ
          · cases e
        · cases e
    | seq c1 c2 =>
      change eSeq (evalM call m) (cCode P K X n c1) (cCode P K X n c2) st = .ok x stF at e
      unfold eSeq at e
      refine wp_seq ?_
      cases h1 : evalM call m (cCode P K X n c1) st with
      | no => rw [h1] at e; cases e
      | ok x1 st1 =>
        rw [h1] at e
        dsimp only at e
        refine ihA c1 g st w a x1 st1 _ (okX_seq hx).1 hk hh hf h1 fun w1 a1 h2 => ?_
        cases h3 : Nat.beq x1 0 with
        | true =>
          rw [h3, sel_true] at e
          have h3 := beq_t h3
          subst h3
          obtain ⟨g1, e1, e2, e3, e4, e5⟩ := h2
          exact ihA c2 g1 st1 w1 a1 x stF Q (okX_seq hx).2 e1 e2 e5 e fun w' a' h => hQ w' a' (h.trans e3 e4)
        | false =>
          rw [h3, sel_false] at e
          injection e with e6 e7
          subst e6; subst e7
          rw [exit_then (beq_f h3)]
          exact hQ w1 a1 h2
    | cond c c1 c2 =>
      change eCond (evalM call m) (cOp K c) (cCode P K X n c1) (cCode P K X n c2) st = .ok x stF at e
      unfold eCond at e
      have ht := hf.opd hk c
      cases h1 : Nat.beq (rd st.T (cOp K c)) 17 with
      | true =>
        rw [h1, sel_true] at e
        have h1 := beq_t h1
        obtain ⟨b, e1, e2⟩ := (ht.cell_inv (by omega) (by omega) (by omega) (by omega)).bool_inv (by omega)
        have : b = true := by
          cases b with
          | true => rfl
          | false => rw [h1] at e1; exact absurd e1 (by decide)
        subst this
        exact wp_cond_true e2 (ihA c1 g st w a x stF Q (okX_cond hx).1 hk hh hf e hQ)
      | false =>
        rw [h1, sel_false] at e
        obtain ⟨h2, e⟩ := sel_ok e
        have h2 := beq_t h2
        obtain ⟨b, e1, e2⟩ := (ht.cell_inv (by omega) (by omega) (by omega) (by omega)).bool_inv (by omega)
        have : b = false := by
          cases b with
          | false => rfl
          | true => rw [h2] at e1; exact absurd e1 (by decide)
        subst this
        exact wp_cond_false e2 (ihA c2 g st w a x stF Q (okX_cond hx).2 hk hh hf e hQ)
    | block id c =>
      change eBlk (evalM call m) id (cCode P K X n c) st = .ok x stF at e
      unfold eBlk at e
      refine wp_block ?_
      cases h1 : evalM call m (cCode P K X n c) st with
      | no => rw [h1] at e; cases e
      | ok x1 st1 =>
        rw [h1] at e
        dsimp only at e
        refine ihA c g st w a x1 st1 _ hx hk hh hf h1 fun w1 a1 h2 => ?_
        cases h3 : Nat.beq x1 (Nat.add id 2) with
        | true =>
          rw [h3, sel_true] at e
          have h3 := beq_t h3
          injection e with e6 e7
          subst e6; subst e7; subst h3
          show Exit.inBlock id Q (.exit id) a1 w1
          simp only [Exit.inBlock, if_true]
          exact hQ w1 a1 h2
        | false =>
          rw [h3, sel_false] at e
          have h3 := beq_f h3
          injection e with e6 e7
          subst e6; subst e7
          match x1, h3, hQ with
          | 0, _, hQ => exact hQ w1 a1 h2
          | 1, _, hQ => exact hQ w1 a1 h2
          | k + 2, h3, hQ =>
            show Exit.inBlock id Q (.exit k) a1 w1
            simp only [Exit.inBlock]
            rw [if_neg (fun h => h3 (by rw [h]))]
            exact hQ w1 a1 h2
    | loop c => exact wp_loop_rounds (m + 1) (hB c g st w a x stF Q hx hk hh hf e hQ)
    | exit id =>
      change RS.ok (Nat.add id 2) st = .ok x stF at e
      injection e with e1 e2
      subst e1; subst e2
      exact wp_exit (hQ w a self)
    | ret =>
      change RS.ok 1 st = .ok x stF at e
      injection e with e1 e2
      subst e1; subst e2
      exact wp_ret (hQ w a self)
    | _ => cases e

end
end Ev
end Go.Proofs.YtgdibfnpkcdiiaaGreatDoor
