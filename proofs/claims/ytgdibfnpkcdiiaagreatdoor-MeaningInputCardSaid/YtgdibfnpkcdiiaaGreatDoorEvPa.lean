/- Structs of whole numbers, compared. No condition. -/
import Derived.Test.YtgdibfnpkcdiiaaGreatDoorEvP
import Derived.Laws.StructEq
namespace Go.Proofs.YtgdibfnpkcdiiaaGreatDoor
namespace Ev

/-- Fields of whole numbers: where, and how its words end. -/
def seFs (P : Program) : List Field → Option (List (Nat × Nat))
  | [] => some []
  | f :: l => match P.underlying f.type, seFs P l with
    | some (.int k), some r => if f.name = "_" then none else some ((f.offset, 2 + 16 * kc k) :: r)
    | _, _ => none
noncomputable def seqs (R a b : Nat) : List (Nat × Nat) → Option Bool := fun l => List.rec (some true) (fun q _ ih => Prod.rec (fun o t =>
  sel (Nat.beq (Nat.mod (gt R (Nat.add a o)) 256) t) (sel (Nat.beq (Nat.mod (gt R (Nat.add b o)) 256) t) (sel (Nat.beq (gt R (Nat.add a o)) (gt R (Nat.add b o))) ih (some false)) none) none) q) l
noncomputable def opSe (neg : Bool) (n : Nat) (l : List (Nat × Nat)) (x y : Opd) (st : St) : RS :=
  sel (Nat.beq (Nat.mod (rd st.T x) 16) 12) (sel (Nat.beq (Nat.mod (rd st.T y) 16) 12) (sel (Nat.beq (ln (rd st.T x)) n) (sel (Nat.beq (ln (rd st.T y)) n)
    (Option.rec .no (fun b => .ok (sel b (sel neg 1 17) (sel neg 17 1)) st) (seqs st.R (sa (rd st.T x)) (sa (rd st.T y)) l)) .no) .no) .no) .no

section
variable {P : Program} {K : Kon} {o : Oper}

theorem eq_of_in2 {t : TypeId} {x y : Value} {b : Bool} {W : World} (h : ∀ d, (Op.equalIn (d + 2) t x y).run P W = .ok b W) : (Op.equal t x y).run P W = .ok b W := h 9998

theorem seqs_ok {g : Gh} {R a b n : Nat} {xs ys : Array Value} (hx : xs.size = n) (hy : ys.size = n) (vx : ∀ i, i < n → VR g (gt R (a + i)) (xs.getD i undef)) (vy : ∀ i, i < n → VR g (gt R (b + i)) (ys.getD i undef)) (d : Nat) (w : World) :
    ∀ (fs : List Field) (l : List (Nat × Nat)) (r : Bool), seFs P fs = some l → (∀ q ∈ l, q.1 < n) → seqs R a b l = some r → (Op.eqFields (d + 1) xs ys fs).run P w = .ok r w
  | [], l, r, h, _, e => by
    injection h with h
    subst h
    have e : some true = some r := e
    injection e with e
    subst e
    rfl
  | f :: fs, l, r, h, hb, e0 => by
    simp only [seFs] at h
    split at h
    · rename_i k r0 hk hr
      split at h
      · cases h
      · rename_i hn
        injection h with h
        subst h
        have ho := hb (f.offset, 2 + 16 * kc k) (by simp)
        dsimp only at ho
        have e : sel (Nat.beq (Nat.mod (gt R (a + f.offset)) 256) (2 + 16 * kc k)) (sel (Nat.beq (Nat.mod (gt R (b + f.offset)) 256) (2 + 16 * kc k)) (sel (Nat.beq (gt R (a + f.offset)) (gt R (b + f.offset))) (seqs R a b r0) (some false)) none) none = some r := e0
        clear e0
        have hk8 := kc_lt k
        have v1 := vx _ ho
        have v2 := vy _ ho
        generalize gt R (a + f.offset) = p at e v1
        generalize gt R (b + f.offset) = q at e v2
        have hd : aggB (.int k) = false := rfl
        have p1 := part_cell (P := P) hk hd (show f.offset < xs.size by omega) w
        have p2 := part_cell (P := P) hk hd (show f.offset < ys.size by omega) w
        generalize xs.getD f.offset undef = u1 at p1 v1
        generalize ys.getD f.offset undef = u2 at p2 v2
        cases h1 : Nat.beq (Nat.mod p 256) (2 + 16 * kc k) with
        | false => rw [h1] at e; cases e
        | true =>
          rw [h1, sel_true] at e
          have h1 : p % 256 = 2 + 16 * kc k := beq_t h1
          cases h2 : Nat.beq (Nat.mod q 256) (2 + 16 * kc k) with
          | false => rw [h2] at e; cases e
          | true =>
            rw [h2, sel_true] at e
            have h2 : q % 256 = 2 + 16 * kc k := beq_t h2
            obtain ⟨k1, m1, a1, a2, a3, a4⟩ := v1.int_inv (by omega)
            obtain ⟨k2, m2, b1, b2, b3, b4⟩ := v2.int_inv (by omega)
            have ek : ∀ (j : IntKind) (m : Int) (z : Nat), z = eInt j m → z % 256 = 2 + 16 * kc k → j = k := fun j m z hz hm => by
              have : eInt j m % 256 = 2 + 16 * kc j := by have := kc_lt j; unfold eInt; omega
              rw [hz, this] at hm
              exact kc_inj (by omega)
            have ek1 := ek k1 m1 p a1 h1
            have ek2 := ek k2 m2 q b1 h2
            subst ek1
            subst ek2
            have hname : f.name ≠ "_" := hn
            have hiff : (Nat.beq p q = true) ↔ m1 = m2 := by
              rw [a1, b1]
              constructor
              · intro h
                have h := beq_t h
                unfold eInt at h; omega
              · intro h; subst h; exact Nat.beq_refl _
            have hin : (Op.equalIn (d + 1) f.type u1 u2).run P w = .ok (m1 == m2) w := by
              rw [a2, b2]; exact run_equalIn_int w d f.type _ _ m1 m2 hk
            have step : (Op.eqFields (d + 1) xs ys (f :: fs)).run P w = if m1 = m2 then (Op.eqFields (d + 1) xs ys fs).run P w else .ok false w := by
              simp only [Op.eqFields]
              rw [if_pos hname]
              simp only [Sem.run_bind, p1, p2, hin, Result.andThen_ok]
              by_cases hm : m1 = m2
              · subst hm; simp
              · have : (m1 == m2) = false := by simpa using hm
                rw [this, if_neg hm]; rfl
            rw [step]
            cases h3 : Nat.beq p q with
            | true =>
              rw [h3, sel_true] at e
              rw [if_pos (hiff.1 h3)]
              exact seqs_ok hx hy vx vy d w fs r0 r hr (fun q hq => hb q (by simp [hq])) e
            | false =>
              rw [h3, sel_false] at e
              injection e with e
              subst e
              rw [if_neg (fun h => by rw [hiff.2 h] at h3; cases h3)]
    · cases h

theorem opSe_ok {t u : TypeId} {x y : Operand} {fs : Array Field} {n : Nat} {l : List (Nat × Nat)} (neg : Bool) (ho : o.op = .binOp (if neg then .neq else .eql) t x y u) (ht : P.underlying t = some (.struct fs)) (hg : P.eqGuardType P.depth t = false) (hp : P.stoodInHeld t = false)
    (hl : seFs P fs.toList = some l) (hb : (l.all fun q => Nat.blt q.1 n) = true) : OpV P K o (opSe neg n l (cOp K x) (cOp K y)) := .pure fun g st a w z st' _ hh hy e => by
  unfold opSe at e
  obtain ⟨h1, e⟩ := sel_ok e
  obtain ⟨h2, e⟩ := sel_ok e
  obtain ⟨h3, e⟩ := sel_ok e
  obtain ⟨h4, e⟩ := sel_ok e
  have h3 := beq_t h3
  have h4 := beq_t h4
  obtain ⟨xs, b1, b2, b3, b4, b5, b6, b7⟩ := (hy x (by simp [ho, Op.operands])).agg' (beq_t h1)
  obtain ⟨ys, c1, c2, c3, c4, c5, c6, c7⟩ := (hy y (by simp [ho, Op.operands])).agg' (beq_t h2)
  cases hs : seqs st.R (sa (rd st.T (cOp K x))) (sa (rd st.T (cOp K y))) l with
  | none => rw [hs] at e; cases e
  | some r =>
    rw [hs] at e
    injection e with e1 e2
    have hft : P.fieldsOf t = fs := by simp [Program.fieldsOf, ht]
    rw [List.all_eq_true] at hb
    have heq : (Op.equal t (.agg xs) (.agg ys)).run P w = .ok r w := eq_of_in2 fun d => by
      rw [run_equalIn_struct w (d + 1) t xs ys (by rw [hft]; exact ht) hp, hft]
      exact seqs_ok (g := g) (n := n) (by rw [b6, h3]) (by rw [c6, h4]) (fun i hi => b7 i (by omega)) (fun i hi => c7 i (by omega)) d w fs.toList l r hl (fun q hq => blt_t (hb q hq)) hs
    refine ⟨e2.symm, .bool (neg ^^ r), ?_, ?_⟩
    · have hbo : (binOp (if neg then .neq else .eql) t (.agg xs) (.agg ys)).run P w = .ok (.bool (neg ^^ r)) w := by
        cases neg <;> simp only [binOp, Sem.run_bind, heq, Result.andThen_ok, if_true, if_false, Bool.false_eq_true] <;> cases r <;> rfl
      simp only [execOp, ho, b2, c2, Sem.run_bind, run_eqGuard_agg w _ t x y xs ys hg, Result.andThen_ok, hbo]
      rfl
    · rw [← e1]
      have := bool_tr g st.R st.nR (neg ^^ r)
      cases neg <;> cases r <;> exact this
end
end Ev
end Go.Proofs.YtgdibfnpkcdiiaaGreatDoor
