/- The program: its hooks are right; what the evaluator says of a closed call. No condition. -/
import Derived.Test.YtgdibfnpkcdiiaaGreatDoorEvX
import Derived.Test.YtgdibfnpkcdiiaaGreatDoorEwK
import Derived.Test.YtgdibfnpkcdiiaaGreatDoorShelf
import Derived.Recover
namespace Go.Proofs.YtgdibfnpkcdiiaaGreatDoor
open Go.RowKit
namespace Ev

theorem enter_of {f : Nat} {fn : Func} {c : Code} (hf : Tryz.prog.funcs[f]? = some fn) (hn : (fn.name == "runtime.NumGoroutine") = false) (hb : fn.body = some c) (args : Array Value) (w : World) : (callFunc f args).run Tryz.prog w = .ok (.enter f args) w := by
  have hn : fn.name ≠ "runtime.NumGoroutine" := by simpa using hn
  simp [callFunc, hf, hn, hb]
theorem extern_of {f : Nat} {fn : Func} {e : Array Value → Sem Value} (hf : Tryz.prog.funcs[f]? = some fn) (hn : (fn.name == "runtime.NumGoroutine") = false) (hb : fn.body = none) (h1 : Extern.findNext fn = none) (h2 : Extern.find fn = some e)
    {args : Array Value} {v : Value} {w : World} (he : (e args).run Tryz.prog w = .ok v w) : (callFunc f args).run Tryz.prog w = .ok (.value v) w := by
  have hn : fn.name ≠ "runtime.NumGoroutine" := by simpa using hn
  simp [callFunc, hf, hn, hb, h1, h2, he]

theorem catch_idle (a b c : Value) (w : World) :
    CallsD Tryz.prog 163 #[a, b, c] .returning w fun e u' w' => e = .returned (.tuple #[]) ∧ u' = .returning ∧ w' = w := by
  refine callsD_of_wpS Tryz.func163 rfl fun c₀ cs hu => ?_
  apply wpS_seq
  apply wpS_region
  simp [wpOpsS, go_sem, recoverD, hu, Tryz.ntmps163, Exit.thenS]
  refine wpS_of_wp ?_
  go_wp2_with fail
  cases c₀
  simp_all [bodyPostS, results, Tryz.results163]

theorem dk_ok : DkV Tryz.prog dk := fun g R nR q d w hq hd h0 => by
  obtain ⟨fv, first, cap, vs, h1, h2, h3, h4, h5, h6⟩ := hq
  unfold dk at hd
  obtain ⟨d1, hd⟩ : Nat.beq (Nat.mod q.1 16) 10 = true ∧ sel (Nat.beq (Nat.mod (Nat.div q.1 16) 65536) 163) (sel (Nat.beq (Nat.mod (Nat.div q.1 1048576) 256) 0) (Nat.beq (Nat.mod (Nat.div q.1 268435456) 256) 3) false) false = true := by
    cases h : Nat.beq (Nat.mod q.1 16) 10 with
    | true => rw [h, sel_true] at hd; exact ⟨rfl, hd⟩
    | false => rw [h] at hd; cases hd
  obtain ⟨d2, hd⟩ : Nat.beq (Nat.mod (Nat.div q.1 16) 65536) 163 = true ∧ sel (Nat.beq (Nat.mod (Nat.div q.1 1048576) 256) 0) (Nat.beq (Nat.mod (Nat.div q.1 268435456) 256) 3) false = true := by
    cases h : Nat.beq (Nat.mod (Nat.div q.1 16) 65536) 163 with
    | true => rw [h, sel_true] at hd; exact ⟨rfl, hd⟩
    | false => rw [h] at hd; cases hd
  obtain ⟨d3, d4⟩ : Nat.beq (Nat.mod (Nat.div q.1 1048576) 256) 0 = true ∧ Nat.beq (Nat.mod (Nat.div q.1 268435456) 256) 3 = true := by
    cases h : Nat.beq (Nat.mod (Nat.div q.1 1048576) 256) 0 with
    | true => rw [h, sel_true] at hd; exact ⟨rfl, hd⟩
    | false => rw [h] at hd; cases hd
  have d1 := beq_t d1
  have d2 := beq_t d2
  have d3 := beq_t d3
  have d4 := beq_t d4
  have d1' : q.1 % 16 = 10 := d1
  obtain ⟨f, m, n, s, ws, fi, ca, e1, e2, f1, f2, f3, f4, f5, f6, f7, f8, f9, f10⟩ := (h1.cell_inv (by omega) (by omega) (by omega) (by omega)).func_inv d1'
  obtain ⟨ef, em, en, es⟩ := eFun_parts (s := s) f1 f2 f3
  rw [e1, ef] at d2
  rw [e1, em] at d3
  rw [e1, en] at d4
  subst d2; subst d3; subst d4
  injection e2 with g1 g2 g3
  subst g1; subst g2; subst g3
  rw [h0] at h4
  have hvs : vs = #[] := by apply Array.eq_empty_of_size_eq_zero; simpa using h4.symm
  have hfi : first = #[] := Array.eq_empty_of_size_eq_zero f6
  subst hvs; subst hfi
  obtain ⟨a, b, c, rfl⟩ : ∃ a b c, cap = #[a, b, c] := by
    refine ⟨cap[0], cap[1], cap[2], ?_⟩
    apply Array.ext
    · simpa using f7
    · intro i hi hi2
      have : i = 0 ∨ i = 1 ∨ i = 2 := by simp at hi2; omega
      rcases this with rfl | rfl | rfl <;> rfl
  · refine ⟨.func 163, #[a, b, c], 163, #[a, b, c], by rw [h3], ?_, (catch_idle a b c w).mono fun e u' w' ⟨k1, k2, k3⟩ => ⟨_, k1, k2, by rw [k3]; exact Harm.refl _⟩⟩
    rw [h3]
    simp only [invoke]
    exact enter_of Tryz.func163 rfl rfl _ _

theorem hk_ok : ∀ f h, hk f = some h → HookV Tryz.prog K0 f h := fun f h e => by
  unfold hk at e
  cases h1 : Nat.beq f 239 with
  | true =>
    rw [h1, sel_true] at e
    injection e with e
    subst e
    have h1 := beq_t h1
    subst h1
    exact hJoin_ok (fun args w => enter_of Tryz.func239 rfl rfl args w) Tryz.strings_Join_none fun bk o c xs sep w a1 a2 a3 a4 a5 => Tryz.strings_Join bk o c xs sep w a1 a2 a3 a4 a5
  | false =>
    rw [h1, sel_false] at e
    cases h2 : Nat.beq f 303 with
    | true =>
      rw [h2, sel_true] at e
      injection e with e
      subst e
      have h2 := beq_t h2
      subst h2
      exact hIxB_ok fun s c w => extern_of Tryz.func303 rfl rfl (by kernel_rfl) (by kernel_rfl) (Lib.run_indexByteString s c w)
    | false =>
      rw [h2, sel_false] at e
      cases h3 : Nat.beq f 319 with
      | true =>
        rw [h3, sel_true] at e
        injection e with e
        subst e
        have h3 := beq_t h3
        subst h3
        exact hCnt_ok fun s c w => extern_of Tryz.func319 rfl rfl (by kernel_rfl) (by kernel_rfl) (Lib.run_countString s c w)
      | false => rw [h3] at e; cases e

theorem slt0 : K0.S < 2 ^ (8 * K0.n) := Nat.le_of_ble_eq_true (by kernel_rfl)
/-- Nothing is known but the constants. -/
theorem hr_of (K : Kon) (hK : K.S < 2 ^ (8 * K.n)) (w : World) : HR K.gh ⟨0, [(0, [])], 0, 0, 0, 0, K.S, K.n⟩ w := by
  have free : ∀ s, K.gh.rho s = .free := fun s => rfl
  exact ⟨rfl, rfl, hK, Nat.one_pos, Nat.one_pos, fun s h => absurd (free s) h, fun s s' _ h => absurd (free s) h, fun s blk base z room h => (by rw [free s] at h; cases h), fun s ws h => (by rw [free s] at h; cases h),
    fun s blk h => (by rw [free s] at h; cases h), fun s s' blk base z room base' z' room' _ h => (by rw [free s] at h; cases h), fun s s' blk h => (by rw [free s] at h; cases h)⟩
theorem hr0 (w : World) : HR K0.gh ⟨0, [(0, [])], 0, 0, 0, 0, K0.S, K0.n⟩ w := hr_of K0 slt0 w

end Ev
end Go.Proofs.YtgdibfnpkcdiiaaGreatDoor
