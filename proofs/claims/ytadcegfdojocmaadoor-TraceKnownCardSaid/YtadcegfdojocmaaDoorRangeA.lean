/- Two laws for a loop over a function: one round out of its body's walk, and the statement out of the iterator's contract; on no condition on what else lies in memory. By an AI agent. -/
import Derived.RangeFuncBox
import Derived.RangeFuncLeaves
namespace Go.Proofs.YtadcegfdojocmaaDoor
open Go.RowKit

/-- A loop's record. -/
def recOf (fn : FuncId) (tmps : Array Value) (ps : Array Tmp) (assign body : Code) (D : Nat) (st : LoopState) (pe : Option Code) : Loop :=
  { state := st, pending := pe, fn, tmps, params := ps, assign, body, defers := D }
/-- The jump by which a round is left. -/
def jumpOf : Exit → Option (Option Code)
  | .normal => some none
  | .ret => some (some .ret)
  | .exit id => some (some (.exit id))
  | .goto t => some (some (.goto t))
  | _ => none

theorem yield_of {F : Fence} {n : Nat} {P : Program} {l D : Nat} {fn : FuncId} {tmps : Array Value} {ps : Array Tmp} {assign body : Code} {W : World} {args : Array Value} {R : Ending → World → Prop} (hF : F.fn fn)
    (hl : W.heap[l]? = some (.loop (recOf fn tmps ps assign body D .ready none))) (hs : args.size = ps.size)
    (h : assign.wpIn (F.inRound l) n P (Exit.then (fun a₁ w₁ => w₁.heap[l]? = some (.loop (recOf fn tmps ps assign body D .ready none)) ∧
        body.wpIn (F.inRound l) n P (fun e _ w' => w'.heap[l]? = some (.loop (recOf fn tmps ps assign body D .busy none)) ∧ ∃ j, jumpOf e = some j ∧ R (.returned (.bool j.isNone)) (w'.putObj l (.loop (recOf fn tmps ps assign body D (if j.isNone then .ready else .done) j)))) a₁ (w₁.putObj l (.loop (recOf fn tmps ps assign body D .busy none)))) (fun _ _ _ => False))
      { tmps := (ps.zip args).foldl (fun t (p, v) => t.setIfInBounds p v) tmps, defers := [] } W) :
    YieldAt F n P l args W R := by
  have hy := run_yield (P := P) (args := args) hl hs
  refine ⟨fn, _, assign, body, hy, roundIn_of_wpIn hF (wpIn_mono h ?_)⟩
  rintro e a₁ w₁ hp
  cases e with
  | normal =>
    obtain ⟨hl1, hb⟩ := hp
    refine ⟨_, run_beginRound hl1 rfl, wpIn_mono hb ?_⟩
    rintro e2 a2 w2 ⟨hl2, j, hj, hR⟩
    have he := run_endRound (P := P) j hl2
    cases e2 <;> simp only [jumpOf, Option.some.injEq, reduceCtorEq] at hj <;> subst hj <;> exact ⟨_, _, he, hR⟩
  | _ => exact hp

/-- The mark that the statement leaves among the deferred calls. -/
def markOf (D : Nat) : Deferred := { target := .collected D, args := #[] }

theorem range_of {F : Fence} {n : Nat} {P : Program} {g : Operand} {ps : Array Tmp} {assign body : Code} {Q : Exit → Act → World → Prop} {a : Act} {w : World}
    (hro : F.round = none) (h1 : 1 ≤ n) {gf : Nat} {lb : Array Value} (hg : a.eval g = .func (.func gf) #[] lb) (hFg : F.fn gf) (eg : ∀ args w, (callFunc gf args).run P w = .ok (.enter gf args) w)
    (h : ∀ fn, F.fn fn → CallsIn F (n - 1) P gf (#[.func (.yield (w.heap.size + 1)) #[] #[]] ++ lb) ((w.alloc (.deferred (some []))).alloc (.loop (recOf fn a.tmps ps assign body w.heap.size .ready none)))
      fun e W => (∃ v, e = .returned v) ∧
        ((W.heap[w.heap.size + 1]? = some (.loop (recOf fn a.tmps ps assign body w.heap.size .ready none)) ∧ Q .normal { a with defers := markOf w.heap.size :: a.defers } (W.putObj (w.heap.size + 1) (.loop (recOf fn a.tmps ps assign body w.heap.size .exhausted none)))) ∨
         (∃ c, W.heap[w.heap.size + 1]? = some (.loop (recOf fn a.tmps ps assign body w.heap.size .done (some c))) ∧ c.wpIn F n P Q { a with defers := markOf w.heap.size :: a.defers } (W.putObj (w.heap.size + 1) (.loop (recOf fn a.tmps ps assign body w.heap.size .exhausted (some c))))))) :
    (Code.rangeFunc g ps assign body).wpIn F n P Q a w := by
  refine wpIn_rangeFunc ?_
  intro fn hfn
  rw [hro]
  have hc := h fn hfn
  have he := run_enterLoop_outer (P := P) (w := w) fn a.tmps ps assign body
  revert hc he
  generalize hW : (w.alloc (.deferred (some []))).alloc (.loop (recOf fn a.tmps ps assign body w.heap.size .ready none)) = W1
  intro hc he
  have he' : (Instr.enterLoop fn a.tmps ps assign body none).run P w = .ok (w.heap.size + 1, [markOf w.heap.size]) W1 := by rw [← hW]; exact he
  have hr : (resolve a.eval (rangeCall g (w.heap.size + 1)) 0).run P W1 = .ok { target := .fn (.func gf) lb, args := #[.func (.yield (w.heap.size + 1)) #[] #[]] } W1 := by
    simp only [resolve, hg]
    simp [go_sem]
  have hi : (invoke (Target.fn (.func gf) lb) #[.func (.yield (w.heap.size + 1)) #[] #[]]).run P W1 = .ok (.enter gf (#[.func (.yield (w.heap.size + 1)) #[] #[]] ++ lb)) W1 := by
    simp [invoke, go_sem, eg]
  refine ⟨w.heap.size + 1, [markOf w.heap.size], W1, { target := .fn (.func gf) lb, args := #[.func (.yield (w.heap.size + 1)) #[] #[]] }, W1, gf,
    #[.func (.yield (w.heap.size + 1)) #[] #[]] ++ lb, W1, ?_, ?_, ?_, ?_, fun _ => h1, ?_⟩
  · exact he'
  · exact hr
  · intro f' hf'; simp [Target.leads] at hf'; subst hf'; exact hFg
  · exact hi
  · refine hc.mono ?_
    rintro e W2 ⟨⟨v, rfl⟩, ⟨hl, hQ⟩ | ⟨c, hl, hQ⟩⟩
    · exact ⟨none, _, run_endLoop hl (by simp [recOf]), hQ⟩
    · exact ⟨some c, _, run_endLoop hl (by simp [recOf]), hQ⟩

/-- What is asked behind a round's body. -/
def RoundOut (l : Nat) (RC : LoopState → Option Code → Loop) (R : Ending → World → Prop) (e : Exit) (_ : Act) (w' : World) : Prop :=
  w'.heap[l]? = some (.loop (RC .busy none)) ∧ ∃ j, jumpOf e = some j ∧ R (.returned (.bool j.isNone)) (w'.putObj l (.loop (RC (if j.isNone then .ready else .done) j)))
/-- The same two, the record behind one letter. -/
theorem yield_rec {F : Fence} {n : Nat} {P : Program} {l D : Nat} {fn : FuncId} {tmps : Array Value} {ps : Array Tmp} {assign body : Code} {W : World} {args : Array Value} {R : Ending → World → Prop} {RC : LoopState → Option Code → Loop}
    (hRC : RC = recOf fn tmps ps assign body D) (hF : F.fn fn) (hl : W.heap[l]? = some (.loop (RC .ready none))) (hs : args.size = ps.size)
    (h : assign.wpIn (F.inRound l) n P (Exit.then (fun a₁ w₁ => w₁.heap[l]? = some (.loop (RC .ready none)) ∧
        body.wpIn (F.inRound l) n P (RoundOut l RC R) a₁ (w₁.putObj l (.loop (RC .busy none)))) (fun _ _ _ => False))
      { tmps := (ps.zip args).foldl (fun t (p, v) => t.setIfInBounds p v) tmps, defers := [] } W) :
    YieldAt F n P l args W R := by
  subst hRC; exact yield_of hF hl hs h
theorem range_rec {F : Fence} {n : Nat} {P : Program} {g : Operand} {ps : Array Tmp} {assign body : Code} {Q : Exit → Act → World → Prop} {a : Act} {w : World}
    (hro : F.round = none) (h1 : 1 ≤ n) {gf : Nat} {lb : Array Value} (hg : a.eval g = .func (.func gf) #[] lb) (hFg : F.fn gf) (eg : ∀ args w, (callFunc gf args).run P w = .ok (.enter gf args) w)
    (h : ∀ fn RC, F.fn fn → RC = recOf fn a.tmps ps assign body w.heap.size → CallsIn F (n - 1) P gf (#[.func (.yield (w.heap.size + 1)) #[] #[]] ++ lb) ((w.alloc (.deferred (some []))).alloc (.loop (RC .ready none)))
      fun e W => (∃ v, e = .returned v) ∧
        ((W.heap[w.heap.size + 1]? = some (.loop (RC .ready none)) ∧ Q .normal { a with defers := markOf w.heap.size :: a.defers } (W.putObj (w.heap.size + 1) (.loop (RC .exhausted none)))) ∨
         (∃ c, W.heap[w.heap.size + 1]? = some (.loop (RC .done (some c))) ∧ c.wpIn F n P Q { a with defers := markOf w.heap.size :: a.defers } (W.putObj (w.heap.size + 1) (.loop (RC .exhausted (some c))))))) :
    (Code.rangeFunc g ps assign body).wpIn F n P Q a w :=
  range_of hro h1 hg hFg eg (fun fn hfn => h fn _ hfn rfl)
end Go.Proofs.YtadcegfdojocmaaDoor
