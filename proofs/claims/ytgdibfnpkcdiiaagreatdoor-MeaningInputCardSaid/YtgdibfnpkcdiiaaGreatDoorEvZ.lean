/- One operation of a region, whatever it is: what the evaluator's step says of it. No condition. -/
import Derived.Test.YtgdibfnpkcdiiaaGreatDoorEvW
namespace Go.Proofs.YtgdibfnpkcdiiaaGreatDoor
namespace Ev

section
variable {P : Program} {K : Kon} {call : Nat → St → RS} {g : Gh} {st : St} {w : World}

theorem rds_lt {T R nR : Nat} {g : Gh} {ρ : Operand → Value} {l : List Operand} (h : ∀ y ∈ l, TR g R nR (rd T (cOp K y)) (ρ y)) : ∀ x ∈ rds T (l.map (cOp K)), x < 2 ^ 128 := fun x hx => by
  unfold rds at hx
  rw [List.map_map] at hx
  obtain ⟨y, hy, rfl⟩ := List.mem_map.1 hx
  exact (h y hy).lt

theorem eFun_parts {f m n s : Nat} (hf : f < 65536) (hm : m < 256) (hn : n < 256) : Nat.mod (Nat.div (eFun f m n s) 16) 65536 = f ∧ Nat.mod (Nat.div (eFun f m n s) 1048576) 256 = m ∧ Nat.mod (Nat.div (eFun f m n s) 268435456) 256 = n ∧ Nat.div (eFun f m n s) 68719476736 = s := by
  refine ⟨?_, ?_, ?_, ?_⟩
  · show eFun f m n s / 16 % 65536 = f; unfold eFun; omega
  · show eFun f m n s / 1048576 % 256 = m; unfold eFun; omega
  · show eFun f m n s / 268435456 % 256 = n; unfold eFun; omega
  · show eFun f m n s / 68719476736 = s; unfold eFun; omega

/-- A function's value with words. -/
theorem dyn_okG {Rel : Nat → Array Value → World → (Value → World → Prop) → Prop} (hmr : MonoR Rel) (hc : CallG Rel K call) (hk : K.In g) (hh : HR g st w) {fw x : Nat} {fv : Value} {ws : List Nat} {args : Array Value} {st' : St} (hf : TR g st.R st.nR fw fv) (hl : ws.length = args.size) (hlt : ∀ y ∈ ws, y < 2 ^ 128)
    (hw : ∀ i, TR g st.R st.nR (ws.getD i 0) (args.getD i undef)) (e : dyn call fw ws st = .ok x st') :
    ∃ f first cap, fv = .func (.func f) first cap ∧ Rel f (first ++ args ++ cap) w fun v w' => ∃ g', Post g st w g' st' w' x v := by
  unfold dyn at e
  cases h1 : Nat.beq (Nat.mod fw 16) 15 with
  | true =>
    rw [h1, sel_true] at e
    have h1 : fw % 16 = 15 := beq_t h1
    obtain ⟨f, rfl, rfl, hf'⟩ := (hf.cell_inv (by omega) (by omega) (by omega) (by omega)).fn0_inv h1
    refine ⟨f, #[], #[], rfl, ?_⟩
    have ef : Nat.div (eFn0 f) 16 = f := by show eFn0 f / 16 = f; unfold eFn0; omega
    rw [ef] at e
    refine calls_okG hmr hc hk hh (by simpa using hl) (fun i => ?_) (fun i hi => ?_) e
    · rw [gt_rowN _ _ hlt]; simpa using hw i
    · rw [gt_rowN _ _ hlt, List.getD_eq_getElem?_getD, List.getElem?_eq_none (by simp at hi; omega)]; rfl
  | false =>
    rw [h1, sel_false] at e
    obtain ⟨h2, e⟩ := sel_ok e
    have h2 : fw % 16 = 10 := beq_t h2
    obtain ⟨f, m, n, s, ws', first, cap, rfl, rfl, f1, f2, f3, f4, f5, f6, f7, f8, f9, f10⟩ := (hf.cell_inv (by omega) (by omega) (by omega) (by omega)).func_inv h2
    refine ⟨f, first, cap, rfl, ?_⟩
    obtain ⟨ef, em, en, es⟩ := eFun_parts (s := s) f1 f2 f3
    rw [ef, em, en, es] at e
    simp only [nA] at e
    have hrow := hh.rows s ws' f5
    have c1 := ch_lt st.M s m
    have c2 := rowN_lt ws hlt
    have c12 := ad_lt c1 c2
    have key : ∀ i, gt (ad (ad (ch st.M s m) m (rowN ws)) (m + ws.length) (ch st.M (s + m) n)) i = if i < m then ws'.getD i 0 else if i < m + ws.length then ws.getD (i - m) 0 else if i < m + ws.length + n then ws'.getD (m + (i - (m + ws.length))) 0 else 0 := fun i => by
      rw [gt_ad _ _ c12]
      by_cases i1 : i < m + ws.length
      · rw [if_pos i1, gt_ad _ _ c1]
        by_cases i2 : i < m
        · rw [if_pos i2, if_pos i2, gt_ch, if_pos i2, hrow i (by omega)]
        · rw [if_neg i2, if_neg i2, if_pos i1, gt_rowN _ _ hlt]
      · rw [if_neg i1, if_neg (by omega), if_neg i1, gt_ch]
        by_cases i3 : i < m + ws.length + n
        · rw [if_pos (by omega), if_pos i3, show s + m + (i - (m + ws.length)) = s + (m + (i - (m + ws.length))) by omega, hrow _ (by omega)]
        · rw [if_neg (by omega), if_neg i3]
    have sz : (first ++ args ++ cap).size = m + ws.length + n := by simp; omega
    refine calls_okG hmr hc hk hh sz.symm (fun i => ?_) (fun i hi => ?_) e
    · rw [key]
      by_cases i1 : i < m
      · rw [if_pos i1]
        have : (first ++ args ++ cap).getD i undef = first.getD i undef := by
          simp [Array.getD_eq_getD_getElem?, Array.getElem?_append, show i < first.size by omega]
        rw [this]; exact .cell _ _ (f9 i i1)
      · rw [if_neg i1]
        by_cases i2 : i < m + ws.length
        · rw [if_pos i2]
          have : (first ++ args ++ cap).getD i undef = args.getD (i - m) undef := by
            rw [Array.getD_eq_getD_getElem?, Array.getD_eq_getD_getElem?, Array.getElem?_append, Array.getElem?_append, if_pos (by simp; omega), if_neg (by omega), f6]
          rw [this]; exact hw _
        · rw [if_neg i2]
          by_cases i3 : i < m + ws.length + n
          · rw [if_pos i3]
            have : (first ++ args ++ cap).getD i undef = cap.getD (i - (m + ws.length)) undef := by
              rw [Array.getD_eq_getD_getElem?, Array.getD_eq_getD_getElem?, Array.getElem?_append, if_neg (by simp; omega), Array.size_append, f6, hl]
            rw [this]; exact .cell _ _ (f10 _ (by omega))
          · rw [if_neg i3]; exact .unk _
    · rw [sz] at hi
      rw [key, if_neg (by omega), if_neg (by omega), if_neg (by omega)]

theorem dyn_ok (hc : CallV P K call) (hk : K.In g) (hh : HR g st w) {fw x : Nat} {fv : Value} {ws : List Nat} {args : Array Value} {st' : St} (hf : TR g st.R st.nR fw fv) (hl : ws.length = args.size) (hlt : ∀ y ∈ ws, y < 2 ^ 128)
    (hw : ∀ i, TR g st.R st.nR (ws.getD i 0) (args.getD i undef)) (e : dyn call fw ws st = .ok x st') :
    ∃ f first cap, fv = .func (.func f) first cap ∧ CallR P f (first ++ args ++ cap) w fun v w' => ∃ g', Post g st w g' st' w' x v := dyn_okG (callR_mono P) hc hk hh hf hl hlt hw e

/-! ### deferred calls -/
def DefR (g : Gh) (R nR : Nat) (q : Nat × List Nat) (d : Deferred) : Prop :=
  ∃ fv first cap vs, TR g R nR q.1 (.func fv first cap) ∧ isFn q.1 = true ∧ d = { target := .fn fv cap, args := first ++ vs } ∧ q.2.length = vs.size ∧ (∀ y ∈ q.2, y < 2 ^ 128) ∧ ∀ i, TR g R nR (q.2.getD i 0) (vs.getD i undef)
inductive DR (g : Gh) (R nR : Nat) : List (Nat × List Nat) → List Deferred → Prop
  | nil : DR g R nR [] []
  | cons {q d l ds} : DefR g R nR q d → DR g R nR l ds → DR g R nR (q :: l) (d :: ds)
theorem DefR.mono {g g' : Gh} {R nR R' nR' : Nat} (h : g.le g') (hr : Ext R nR R' nR') {q : Nat × List Nat} {d : Deferred} (k : DefR g R nR q d) : DefR g' R' nR' q d := by
  obtain ⟨fv, first, cap, vs, h1, h2, h3, h4, h5, h6⟩ := k
  exact ⟨fv, first, cap, vs, h1.mono h hr, h2, h3, h4, h5, fun i => (h6 i).mono h hr⟩
theorem DR.mono {g g' : Gh} {R nR R' nR' : Nat} (h : g.le g') (hr : Ext R nR R' nR') {l : List (Nat × List Nat)} {ds : List Deferred} (k : DR g R nR l ds) : DR g' R' nR' l ds := by
  induction k with
  | nil => exact .nil
  | cons a _ ih => exact .cons (a.mono h hr) ih

/-! ### a step -/
/-- The world and the state behind a step, the slot being still unwritten. -/
structure SPost (g : Gh) (st : St) (w : World) (g' : Gh) (st' : St) (w' : World) (x : Nat) (v : Value) (ds ds' : List Deferred) : Prop where
  hr : HR g' st' w'
  fr : Fr g w g' w'
  ext : Ext st.R st.nR st'.R st'.nR
  tr : TR g' st'.R st'.nR x v
  T : st'.T = st.T
  D : DR g' st'.R st'.nR st'.D ds'

theorem Post.spost {g' : Gh} {st' : St} {w' : World} {x : Nat} {v : Value} {ds : List Deferred} (h : Post g st w g' st' w' x v) (hd : DR g st.R st.nR st.D ds) : SPost g st w g' st' w' x v ds ds :=
  ⟨h.hr, h.fr, h.ext, h.tr, h.T, by rw [h.D]; exact hd.mono h.fr.le h.ext⟩

end
end Ev
end Go.Proofs.YtgdibfnpkcdiiaaGreatDoor
