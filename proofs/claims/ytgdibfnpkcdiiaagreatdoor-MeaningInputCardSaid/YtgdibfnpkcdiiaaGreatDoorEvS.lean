/- Maps, reckoned on words: they are right. No condition. -/
import Derived.Test.YtgdibfnpkcdiiaaGreatDoorEvR
namespace Go.Proofs.YtgdibfnpkcdiiaaGreatDoor
namespace Ev

theorem bytes_beq (a b : ByteArray) : (a == b) = true ↔ a = b := by
  obtain ⟨x⟩ := a
  obtain ⟨y⟩ := b
  constructor
  · intro h
    have e : x = y := by simpa using (show (x == y) = true from h)
    rw [e]
  · intro h
    cases h
    show (x == x) = true
    simp
theorem get_map {P : Program} {w : World} {r : Nat} {es : Array MapEntry} {clock : Nat} (hb : w.heap[r]? = some (.map es clock)) : (getObj r).run P w = .ok (.map es clock) w := by
  simp [getObj, Sem.run, hb]
theorem set_map {P : Program} {w : World} {r : Nat} {es : Array MapEntry} {clock : Nat} (o : Obj) (hb : w.heap[r]? = some (.map es clock)) : (setObj r o).run P w = .ok () { w with heap := w.heap.setIfInBounds r o } := by
  simp [setObj, Sem.run, hb]
theorem find_key {P : Program} {w : World} {kt : TypeId} {d : TypeDesc} {k : Value} {l : List MapEntry} {a : Option (Nat × Value)} (hd : P.underlying kt = some d) (h : Instr.findNow d k l 0 = some a) : (Instr.findKey kt k l).run P w = .ok a w := by
  simp [Instr.findKey, run_underlying hd, h]

theorem eInt_inj {k : IntKind} {a b : Int} (ha : -9223372036854775808 ≤ a) (hb : -9223372036854775808 ≤ b) (h : eInt k a = eInt k b) : a = b := by
  rw [← dI_eInt k a ha, ← dI_eInt k b hb, h]

theorem kt_string {kd : TypeDesc} (h : ktOf kd = 3) : kd = .string := by cases kd <;> first | rfl | (simp [ktOf] at h)
theorem kt_int {kd : TypeDesc} (h : ktOf kd = 2) : ∃ k, kd = .int k := by cases kd <;> first | exact ⟨_, rfl⟩ | (simp [ktOf] at h)

theorem kEq_ok {g : Gh} {x y : Nat} {k k' : Value} {kd : TypeDesc} {b : Bool} (hx : VR g x k) (hy : VR g y k') (ht : x % 16 = ktOf kd) (e : kEq g.S x y = some b) : Instr.sameNow kd k k' = some b := by
  unfold kEq at e
  cases h1 : Nat.beq (Nat.mod x 16) 3 with
  | true =>
    rw [h1, sel_true] at e
    have h1 : x % 16 = 3 := beq_t h1
    have hk := kt_string (ht ▸ h1)
    subst hk
    cases h2 : Nat.beq (Nat.mod y 16) 3 with
    | false => rw [h2, sel_false] at e; cases e
    | true =>
      rw [h2, sel_true] at e
      have h2 : y % 16 = 3 := beq_t h2
      obtain ⟨a1, a2, _⟩ := (TR.cell (R := 0) (nR := 0) x k hx).str h1
      obtain ⟨b1, b2, _⟩ := (TR.cell (R := 0) (nR := 0) y k' hy).str h2
      rw [strEq_ok a1 b1] at e
      injection e with e
      subst a2; subst b2; subst e
      simp only [Instr.sameNow]
      congr 1
      rw [Bool.eq_iff_iff, bytes_beq, decide_eq_true_eq]
  | false =>
    rw [h1, sel_false] at e
    cases h2 : Nat.beq (Nat.mod x 16) 2 with
    | false => rw [h2, sel_false] at e; cases e
    | true =>
      rw [h2, sel_true] at e
      have h2 : x % 16 = 2 := beq_t h2
      obtain ⟨ik, hk⟩ := kt_int (ht ▸ h2)
      subst hk
      cases h3 : Nat.beq (Nat.mod x 256) (Nat.mod y 256) with
      | false => rw [h3, sel_false] at e; cases e
      | true =>
        rw [h3, sel_true] at e
        have h3 : x % 256 = y % 256 := beq_t h3
        injection e with e
        obtain ⟨j, n, rfl, rfl, n1, n2⟩ := hx.int_inv h2
        obtain ⟨j', n', rfl, rfl, m1, m2⟩ := hy.int_inv (by omega)
        have := kc_lt j; have := kc_lt j'
        rw [eInt_mod, eInt_mod] at h3
        have hj : j = j' := kc_inj (by omega)
        subst hj
        simp only [Instr.sameNow, if_pos]
        rw [← e]
        congr 1
        rw [Bool.eq_iff_iff, beq_iff_eq]
        exact ⟨fun h => by rw [h]; exact Nat.beq_refl _, fun h => eInt_inj n1 m1 (beq_t h)⟩

theorem findK_ok {g : Gh} {M s str x c j : Nat} {k : Value} {kd : TypeDesc} {es : List MapEntry} (hx : VR g x k) (ht : x % 16 = ktOf kd) (hc : es.length = c) (hv : ∀ i (h : i < es.length), VR g (gt M (s + i * str)) es[i].key) :
    ∀ n, n ≤ c → findK g.S M s str x c n = some j → j ≤ c ∧ Instr.findNow kd k (es.drop (c - n)) (c - n) = some (if j = 0 then none else some (j - 1, (es[j - 1]?.map (·.val)).getD undef))
  | 0, _, e => by
    injection e with e
    subst e
    rw [Nat.sub_zero, List.drop_of_length_le (by omega)]
    exact ⟨Nat.zero_le _, rfl⟩
  | n + 1, hn, e => by
    have hlt : c - (n + 1) < es.length := by omega
    rw [List.drop_eq_getElem_cons hlt]
    change Option.rec none (fun b => sel b (some (Nat.sub c n)) (findK g.S M s str x c n)) (kEq g.S x (gt M (Nat.add s (Nat.mul (Nat.sub (Nat.sub c n) 1) str)))) = some j at e
    cases hq : kEq g.S x (gt M (Nat.add s (Nat.mul (Nat.sub (Nat.sub c n) 1) str))) with
    | none => rw [hq] at e; cases e
    | some b =>
      rw [hq] at e
      change sel b (some (Nat.sub c n)) (findK g.S M s str x c n) = some j at e
      simp only [nA, nS, nM] at hq e
      have hs := kEq_ok hx (hv (c - (n + 1)) hlt) ht (by rw [show c - (n + 1) = c - n - 1 by omega]; exact hq)
      cases b with
      | true =>
        injection e with e
        simp only [Instr.findNow, hs]
        rw [if_neg (by omega)]
        refine ⟨by omega, ?_⟩
        rw [← e, show c - n - 1 = c - (n + 1) by omega, List.getElem?_eq_getElem hlt]
        rfl
      | false =>
        have ih := findK_ok hx ht hc hv n (by omega) e
        simp only [Instr.findNow, hs]
        rw [show c - (n + 1) + 1 = c - n by omega]
        exact ih

/-- A map's word. -/
theorem mp_parts {c nv s : Nat} (hc : c < 16777216) (hv : nv < 256) : mc (eMp c nv s) = c ∧ mv (eMp c nv s) = nv ∧ ms (eMp c nv s) = s := by
  refine ⟨?_, ?_, ?_⟩
  · show eMp c nv s / 16 % 16777216 = c; unfold eMp; omega
  · show eMp c nv s / 268435456 % 256 = nv; unfold eMp; omega
  · show eMp c nv s / 68719476736 = s; unfold eMp; omega
theorem eMp_lt {c nv s : Nat} (hc : c < 16777216) (hv : nv < 256) (hs : s < 16777216) : eMp c nv s < 2 ^ 128 := by unfold eMp; omega
theorem eMap_div (s : Nat) : eMap s / 16 = s := by unfold eMap; omega

section
variable {P : Program} {g : Gh} {st : St} {w : World}

theorem run_key {kt : TypeId} {kd : TypeDesc} (hd : P.underlying kt = some kd) (h0 : ktOf kd ≠ 0) (v : Value) (e : Bool) (n : Nat) (w : World) : (Instr.checkKey e (n + 1) kt v).run P w = .ok () w := by
  unfold Instr.checkKey
  simp only [Sem.run_bind, run_underlying hd, Result.andThen]
  cases kd <;> first | (exact absurd rfl h0) | rfl

theorem run_look {t kt el : TypeId} {kd : TypeDesc} {i : TypeInfo} {z : Value} {blk : Nat} {es : Array MapEntry} {clock : Nat} {k : Value} {r : Option (Nat × Value)} (ht : P.underlying t = some (.map kt el)) (hd : P.underlying kt = some kd) (h0 : ktOf kd ≠ 0)
    (hi : P.info? el = some i) (hz : i.zero = some z) (hb : w.heap[blk]? = some (.map es clock)) (hf : Instr.findNow kd k es.toList 0 = some r) (ok : Bool) :
    (Instr.lookup t (.map (some blk)) k ok).run P w = .ok (if ok then .tuple #[(r.map (·.2)).getD z, .bool r.isSome] else (r.map (·.2)).getD z) w := by
  simp only [Instr.lookup, Sem.run_bind, run_underlying ht, Result.andThen_ok, get_map hb, Sem.run_pure, run_key hd h0 k _ 9999, find_key hd hf]
  cases r with
  | none => cases ok <;> simp [zeroValue, run_typ hi, hz]
  | some p => cases ok <;> simp

/-- What HR says of a map. -/
theorem HR.mapAt (h : HR g st w) {s blk : Nat} (hr : g.rho s = .map blk) : ∃ c nv s' ws es clock, gt st.M s = eMp c nv s' ∧ c < 16777216 ∧ nv < 256 ∧ s' < 16777216 ∧ g.rho s' = .row ws ∧ w.heap[blk]? = some (.map es clock) ∧ es.size = c ∧ ws.length = c * stride nv ∧
    (∀ i, i < ws.length → gt st.M (s' + i) = ws.getD i 0) ∧ (∀ i (h : i < es.toList.length), VR g (gt st.M (s' + i * stride nv)) es.toList[i].key) ∧
      ∀ i (h : i < es.size), VR g (ws.getD (i * stride nv) 0) es[i].key ∧ ValR g ws (i * stride nv + 1) nv es[i].val := by
  obtain ⟨o, ho, c, nv, s', ws, es, clock, h1, h2, h3, h4, h5, rfl, h7, h8, h9⟩ := h.maps s blk hr
  have hrow := h.rows s' ws h5
  refine ⟨c, nv, s', ws, es, clock, h1, h2, h3, h4, h5, ho, h7, h8, hrow, fun i hi => ?_, h9⟩
  have hi' : i < es.size := by simpa using hi
  have hst : 0 < stride nv := by unfold stride; split <;> omega
  rw [hrow _ (by rw [h8, ← h7]; exact Nat.mul_lt_mul_of_pos_right hi' hst)]
  simpa using (h9 i hi').1

theorem stride_pos (nv : Nat) : 0 < stride nv := by unfold stride; split <;> omega

end
end Ev
end Go.Proofs.YtgdibfnpkcdiiaaGreatDoor
