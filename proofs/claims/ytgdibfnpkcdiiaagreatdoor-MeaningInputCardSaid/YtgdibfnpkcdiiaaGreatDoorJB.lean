/- Joint text: EwT, HOneB, HOneC, HOneD. By an AI agent. -/
import Derived.Test.YtgdibfnpkcdiiaaGreatDoorEwO
import Derived.Test.YtgdibfnpkcdiiaaGreatDoorJA
import Derived.Deep.WholeRow
import Derived.Deep.DeepCutAuto
/- A call with known truths and numbers, reckoned: its answer, told as a value. No condition. -/
namespace Go.Proofs.YtgdibfnpkcdiiaaGreatDoor
open Go.RowKit
namespace Ev

def kOf (n : Nat) : IntKind := match n with
  | 0 => .i8 | 1 => .i16 | 2 => .i32 | 3 => .i64 | 4 => .u8 | 5 => .u16 | 6 => .u32 | _ => .u64
theorem kOf_kc (k : IntKind) : kOf (kc k) = k := by cases k <;> rfl
/-- The value that a word tells, if it is a truth, a number or a text. -/
def decC (S w : Nat) : Option Value := if w % 16 = 3 then some (.string (strOf S (sa w) (ln w))) else if w % 16 = 1 then some (.bool (Nat.beq w 17)) else if w % 16 = 2 then some (.int (kOf (w / 16 % 16)) ((w / 256 : Nat) - 9223372036854775808)) else none
def decL (S R s : Nat) : Nat → Option (List Value)
  | 0 => some []
  | k + 1 => match decL S R s k, decC S (gt R (s + k)) with
    | some l, some v => some (l ++ [v])
    | _, _ => none
def decA (S R x : Nat) : Option Value := if x % 16 = 12 then (decL S R (sa x) (ln x)).map fun l => .agg l.toArray else decC S x
def decLA (S R s : Nat) : Nat → Option (List Value)
  | 0 => some []
  | k + 1 => match decLA S R s k, decA S R (gt R (s + k)) with
    | some l, some v => some (l ++ [v])
    | _, _ => none
def decT (S R x : Nat) : Option Value := if x % 16 = 13 then (decLA S R (sa x) (ln x)).map fun l => .tuple l.toArray else decA S R x

theorem decC_ok {g : Gh} {S R nR w : Nat} {v u : Value} (h : TR g R nR w v) (hS : S = g.S) (e : decC S w = some u) : v = u := by
  unfold decC at e
  split at e
  · rename_i h3
    obtain ⟨s, l, e1, e2, e3, e4, e5⟩ := (h.cell_inv (by omega) (by omega) (by omega) (by intro hw; subst hw; cases h3)).str_inv h3
    injection e with e
    have a1 : sa w = s := by rw [e1]; show eStr s l / 268435456 = s; unfold eStr; omega
    have a2 : ln w = l := by rw [e1]; show eStr s l / 16 % 16777216 = l; unfold eStr; omega
    rw [e2, ← e, a1, a2, hS]
  split at e
  · rename_i h1
    obtain ⟨b, e1, e2⟩ := (h.cell_inv (by omega) (by omega) (by omega) (by intro hw; subst hw; cases h1)).bool_inv h1
    injection e with e
    rw [e2, ← e, e1]
    cases b <;> rfl
  · split at e
    · rename_i h2
      obtain ⟨k, n, e1, e2, e3, e4⟩ := (h.cell_inv (by omega) (by omega) (by omega) (by intro hw; subst hw; cases h2)).int_inv h2
      injection e with e
      have hk := kc_lt k
      have a1 : w / 16 % 16 = kc k := by rw [e1]; unfold eInt; omega
      have a2 : ((w / 256 : Nat) : Int) - 9223372036854775808 = n := by rw [e1]; unfold eInt; omega
      rw [e2, ← e, a1, a2, kOf_kc]
    · cases e
theorem decL_ok {g : Gh} {S R nR s : Nat} {vs : Array Value} (hS : S = g.S) : ∀ {k : Nat} {l : List Value}, (∀ i, i < k → VR g (gt R (s + i)) (vs.getD i undef)) → decL S R s k = some l → l.length = k ∧ ∀ i, i < k → vs.getD i undef = l.getD i undef
  | 0, l, _, e => by injection e with e; subst e; exact ⟨rfl, fun i hi => absurd hi (by omega)⟩
  | k + 1, l, h, e => by
    unfold decL at e
    split at e
    · rename_i l0 v0 h1 h2
      injection e with e
      subst e
      obtain ⟨i1, i2⟩ := decL_ok (k := k) (nR := nR) hS (fun i hi => h i (by omega)) h1
      refine ⟨by simp [i1], fun i hi => ?_⟩
      by_cases hk : i < k
      · rw [i2 i hk]; simp [List.getD_eq_getElem?_getD, List.getElem?_append, i1, hk]
      · have : i = k := by omega
        subst this
        rw [decC_ok (R := R) (nR := nR) (.cell _ _ (h i (by omega))) hS h2]
        simp [List.getD_eq_getElem?_getD, i1]
    · cases e
theorem arr_eq {vs : Array Value} {l : List Value} (h : vs.size = l.length) (k : ∀ i, i < l.length → vs.getD i undef = l.getD i undef) : vs = l.toArray := by
  apply Array.ext
  · simpa using h
  · intro i h1 h2
    have := k i (by omega)
    simpa [Array.getD_eq_getD_getElem?, List.getD_eq_getElem?_getD, h1, show i < l.length by omega] using this
theorem decA_ok {g : Gh} {S R nR x : Nat} {v u : Value} (h : TR g R nR x v) (hS : S = g.S) (e : decA S R x = some u) : v = u := by
  unfold decA at e
  split at e
  · rename_i h1
    obtain ⟨vs, b1, b2, b3, b4, b5, b6, b7⟩ := h.agg' h1
    cases hl : decL S R (sa x) (ln x) with
    | none => rw [hl] at e; cases e
    | some l =>
      rw [hl] at e
      injection e with e
      obtain ⟨i1, i2⟩ := decL_ok (nR := nR) hS b7 hl
      rw [b2, ← e, arr_eq (by omega) fun i hi => i2 i (by omega)]
  · exact decC_ok h hS e
theorem decLA_ok {g : Gh} {S R nR s : Nat} {vs : Array Value} (hS : S = g.S) : ∀ {k : Nat} {l : List Value}, (∀ i, i < k → TR g R nR (gt R (s + i)) (vs.getD i undef)) → decLA S R s k = some l → l.length = k ∧ ∀ i, i < k → vs.getD i undef = l.getD i undef
  | 0, l, _, e => by injection e with e; subst e; exact ⟨rfl, fun i hi => absurd hi (by omega)⟩
  | k + 1, l, h, e => by
    unfold decLA at e
    split at e
    · rename_i l0 v0 h1 h2
      injection e with e
      subst e
      obtain ⟨i1, i2⟩ := decLA_ok (k := k) hS (fun i hi => h i (by omega)) h1
      refine ⟨by simp [i1], fun i hi => ?_⟩
      by_cases hk : i < k
      · rw [i2 i hk]; simp [List.getD_eq_getElem?_getD, List.getElem?_append, i1, hk]
      · have : i = k := by omega
        subst this
        rw [decA_ok (h i (by omega)) hS h2]
        simp [List.getD_eq_getElem?_getD, i1]
    · cases e
theorem decT_ok {g : Gh} {S R nR x : Nat} {v u : Value} (h : TR g R nR x v) (hS : S = g.S) (e : decT S R x = some u) : v = u := by
  unfold decT at e
  split at e
  · rename_i h1
    obtain ⟨s0, n0, vs, b1, b2, b3, b4, b5, b6, b7⟩ := h.tup_inv h1
    have hln : ln x = n0 := by rw [b1]; unfold ln eTup; show (13 + 16 * n0 + 268435456 * s0) / 16 % 16777216 = n0; omega
    have hsa : sa x = s0 := by rw [b1]; unfold sa eTup; show (13 + 16 * n0 + 268435456 * s0) / 268435456 = s0; omega
    rw [hln, hsa] at e
    cases hl : decLA S R s0 n0 with
    | none => rw [hl] at e; cases e
    | some l =>
      rw [hl] at e
      injection e with e
      obtain ⟨i1, i2⟩ := decLA_ok hS b7 hl
      rw [b2, ← e, arr_eq (by omega) fun i hi => i2 i (by omega)]
  · exact decA_ok h hS e

/-- The words of truths and numbers. -/
def encC : Value → Nat
  | .bool b => if b = true then 17 else 1
  | .int k n => eInt k n
  | _ => 0
def plainC : Value → Bool
  | .bool _ => true
  | .int _ n => decide (-9223372036854775808 ≤ n) && decide (n < 18446744073709551616)
  | _ => false
theorem encC_vr {g : Gh} {v : Value} (h : plainC v = true) : VR g (encC v) v := by
  cases v with
  | bool b => cases b with
    | true => exact VR.bool true
    | false => exact VR.bool false
  | int k n =>
    simp only [plainC, Bool.and_eq_true, decide_eq_true_eq] at h
    exact .int k n h.1 h.2
  | _ => cases h
/-- Are two such values the same? -/
def eqC : Value → Value → Bool
  | .bool a, .bool b => a == b
  | .int k n, .int j m => decide (k = j) && decide (n = m)
  | .string a, .string b => decide (a.data = b.data)
  | _, _ => false
theorem eqC_ok {a b : Value} (h : eqC a b = true) : a = b := by
  unfold eqC at h
  split at h
  · rw [eq_of_beq h]
  · simp only [Bool.and_eq_true, decide_eq_true_eq] at h
    rw [h.1, h.2]
  · rename_i a b
    rw [show a = b by cases a; cases b; simpa using h]
  · cases h
def eqL (f : Value → Value → Bool) : List Value → List Value → Bool
  | [], [] => true
  | a :: l, b :: m => f a b && eqL f l m
  | _, _ => false
theorem eqL_ok {f : Value → Value → Bool} (hf : ∀ {a b}, f a b = true → a = b) : ∀ {l m : List Value}, eqL f l m = true → l = m
  | [], [], _ => rfl
  | a :: l, b :: m, h => by
    have h : (f a b && eqL f l m) = true := h
    simp only [Bool.and_eq_true] at h
    rw [hf h.1, eqL_ok hf h.2]
  | [], _ :: _, h => nomatch h
  | _ :: _, [], h => nomatch h
def eqA : Value → Value → Bool
  | .agg a, .agg b => eqL eqC a.toList b.toList
  | a, b => eqC a b
theorem eqA_ok {a b : Value} (h : eqA a b = true) : a = b := by
  unfold eqA at h
  split at h
  · rename_i x y
    have := eqL_ok eqC_ok h
    rw [show x = y from Array.toList_inj.1 this]
  · exact eqC_ok h
def eqT : Value → Value → Bool
  | .tuple a, .tuple b => eqL eqA a.toList b.toList
  | a, b => eqA a b
theorem eqT_ok {a b : Value} (h : eqT a b = true) : a = b := by
  unfold eqT at h
  split at h
  · rename_i x y
    have := eqL_ok eqA_ok h
    rw [show x = y from Array.toList_inj.1 this]
  · exact eqA_ok h
noncomputable def told (r : RS) : Option Value := RS.rec none (fun x s => decT s.S s.R x) r
/-- What the evaluator says of a call with known truths and numbers. -/
theorem call_ok {f : Nat} {fn : Func} {c : Code} (l : List Value) {v : Value} (hp : l.all plainC = true) (hf : Tryz.prog.funcs[f]? = some fn) (hn : (fn.name == "runtime.NumGoroutine") = false) (hb : fn.body = some c) (hm : Tryz.prog.follows .mixedOrders = true)
    (h : told (evalF Tryz.prog K0 X0 hk dk 1000000 1000 f ⟨rowN (l.map encC), [(l.length, [])], 0, 0, 0, 0, K0.S, K0.n⟩) = some v) (w : World) :
    Calls Tryz.prog f l.toArray w fun e w' => e = .returned v ∧ Below w.heap.size w w' := by
  cases hr : evalF Tryz.prog K0 X0 hk dk 1000000 1000 f ⟨rowN (l.map encC), [(l.length, [])], 0, 0, 0, 0, K0.S, K0.n⟩ with
  | no => rw [hr] at h; cases h
  | ok x st' =>
    rw [hr] at h
    rw [List.all_eq_true] at hp
    have hlt : ∀ w ∈ l.map encC, w < 2 ^ 128 := fun w hw => by
      obtain ⟨u, hu, rfl⟩ := List.mem_map.1 hw
      exact (encC_vr (g := K0.gh) (hp u hu)).lt
    have hh : HR K0.gh ⟨rowN (l.map encC), [(l.length, [])], 0, 0, 0, 0, K0.S, K0.n⟩ w := (hr0 w).frame _ _ (R := 0) (nR := 0) Nat.one_pos
    have hv := evalF_ok (fuel := 1000000) X0_ok hm hk_ok dk_ok 1000 f K0.gh _ w l.toArray x st' ⟨Nat.le_refl _, fun _ _ => rfl⟩ hh (by simp) (fun i => by
      rw [gt_rowN _ i hlt]
      by_cases hi : i < l.length
      · have e1 : (l.map encC).getD i 0 = encC l[i] := by simp [List.getD_eq_getElem?_getD, hi]
        have e2 : l.toArray.getD i undef = l[i] := by simp [Array.getD_eq_getD_getElem?, hi]
        rw [e1, e2]; exact .cell _ _ (encC_vr (hp _ (List.getElem_mem hi)))
      · have e1 : (l.map encC).getD i 0 = 0 := by simp [List.getD_eq_getElem?_getD, hi]
        rw [e1]; exact .unk _) (fun i hi => by
      rw [gt_rowN _ i hlt]
      have hi : l.length ≤ i := by simpa using hi
      simp [List.getD_eq_getElem?_getD, show ¬ i < l.length by omega]) hr
    rcases hv with ⟨_, hv⟩ | ⟨v, w', hv, _⟩
    · refine hv.mono fun e w' ⟨u, e1, g', hp'⟩ => ?_
      have hno : ∀ k, ¬ Own K0.gh k := fun k hk => by
        rcases hk with ⟨s, base, z, room, hs⟩ | ⟨s, hs⟩
        · cases hs
        · cases hs
      exact ⟨by rw [e1, decT_ok hp'.tr hp'.hr.S h], hp'.fr.os, hp'.fr.tape, hp'.fr.output, hp'.fr.size, fun k hk => hp'.fr.keep k hk (hno k)⟩
    · rw [enter_of hf hn hb] at hv
      cases hv
/-- Does it answer so? -/
noncomputable def tells (f : Nat) (l : List Value) (v : Value) : Bool := match told (evalF Tryz.prog K0 X0 hk dk 1000000 1000 f ⟨rowN (l.map encC), [(l.length, [])], 0, 0, 0, 0, K0.S, K0.n⟩) with
  | some u => eqT u v
  | none => false
theorem tells_ok {f : Nat} {fn : Func} {c : Code} (l : List Value) {v : Value} (hp : l.all plainC = true) (hf : Tryz.prog.funcs[f]? = some fn) (hn : (fn.name == "runtime.NumGoroutine") = false) (hb : fn.body = some c) (hm : Tryz.prog.follows .mixedOrders = true)
    (h : tells f l v = true) (w : World) : Calls Tryz.prog f l.toArray w fun e w' => e = .returned v ∧ Below w.heap.size w w' := by
  unfold tells at h
  split at h
  · rename_i u hu
    rw [← eqT_ok h]
    exact call_ok l hp hf hn hb hm hu w
  · cases h
/-- All numbers from a on, so many. -/
noncomputable def allN (f : Nat → Bool) (a : Nat) : Nat → Bool := fun n => Nat.rec true (fun n ih => sel (f (Nat.add a n)) ih false) n
theorem allN_ok {f : Nat → Bool} {a : Nat} : ∀ {n : Nat}, allN f a n = true → ∀ i, a ≤ i → i < a + n → f i = true
  | 0, _, i, h1, h2 => absurd h2 (by omega)
  | n + 1, h, i, h1, h2 => by
    have h : sel (f (a + n)) (allN f a n) false = true := h
    obtain ⟨h3, h4⟩ := sel_t h
    by_cases hi : i = a + n
    · rw [hi]; exact h3
    · exact allN_ok h4 i h1 (by omega)
end Ev
end Go.Proofs.YtgdibfnpkcdiiaaGreatDoor

/- Which fields an instruction has (forms), by the evaluator; is a variable wrong (one's closure). By an AI agent. -/
namespace Go.Proofs.YtgdibfnpkcdiiaaGreatDoor
open Go.RowKit

def formV (o : Nat) : Value := .agg #[.bool (hasV o), .bool (hasA o), .bool (hasB o), .bool (hasN o), .bool (hasO o), .bool (hasG o), .bool (hasG o), .bool (hasR o), .bool (hasT o)]
def isOp (o : Nat) : Bool := decide (1 ≤ o ∧ o ≤ 14)
theorem mixed : Tryz.prog.follows .mixedOrders = true := by kernel_rfl
theorem forms1 : Ev.allN (fun o => Ev.tells 110 [.int .u8 o] (.tuple #[formV o, .bool (isOp o)])) 0 64 = true := by kernel_rfl
theorem forms2 : Ev.allN (fun o => Ev.tells 110 [.int .u8 o] (.tuple #[formV o, .bool (isOp o)])) 64 64 = true := by kernel_rfl
theorem forms3 : Ev.allN (fun o => Ev.tells 110 [.int .u8 o] (.tuple #[formV o, .bool (isOp o)])) 128 64 = true := by kernel_rfl
theorem forms4 : Ev.allN (fun o => Ev.tells 110 [.int .u8 o] (.tuple #[formV o, .bool (isOp o)])) 192 64 = true := by kernel_rfl
theorem forms_any (o : Nat) (w : World) (h : o < 256) : Calls Tryz.prog 110 #[.int .u8 o] w fun e w' => e = .returned (.tuple #[formV o, .bool (isOp o)]) ∧ Below w.heap.size w w' := by
  refine Ev.tells_ok [.int .u8 o] (by simp [Ev.plainC]; omega) Tryz.func110 rfl rfl mixed ?_ w
  by_cases h1 : o < 64
  · exact Ev.allN_ok forms1 o (by omega) (by omega)
  · by_cases h2 : o < 128
    · exact Ev.allN_ok forms2 o (by omega) (by omega)
    · by_cases h3 : o < 192
      · exact Ev.allN_ok forms3 o (by omega) (by omega)
      · exact Ev.allN_ok forms4 o (by omega) (by omega)
end Go.Proofs.YtgdibfnpkcdiiaaGreatDoor

/- The document's letters for an instruction's fields (parts, has). By an AI agent. -/
namespace Go.Proofs.YtgdibfnpkcdiiaaGreatDoor
open Go.RowKit

def partsL (o : Nat) : List UInt8 := ([[63], [118, 110], [118, 97], [118, 111, 97, 98], [118, 114, 97], [114, 97, 98], [97, 114], [97], [118], [97], [97], [118, 102, 103], [97], [116], [97, 116]] : List (List UInt8)).getD o [63]
set_option maxHeartbeats 2000000 in
theorem parts_no (o : Nat) (w : World) (h : isOp o = false) : Calls Tryz.prog 114 #[.int .u8 o] w fun e w' => e = .returned (.string ⟨[63].toArray⟩) ∧ Below w.heap.size w w' := by
  have h : ¬ (1 ≤ o ∧ o ≤ 14) := of_decide_eq_false h
  by_cases h1 : o < 1
  · have q1 : decide ((o : Int) < 1) = true := decide_eq_true (by omega)
    go_enter Tryz.func114, Tryz.ntmps114
    go_wp2_with fail
    go_ret
    exact ⟨rfl, Below.refl _ _⟩
  · have q1 : decide ((o : Int) < 1) = false := decide_eq_false (by omega)
    have q2 : decide ((14 : Int) < (o : Int)) = true := decide_eq_true (by omega)
    go_enter Tryz.func114, Tryz.ntmps114
    go_wp2_with fail
    go_ret
    exact ⟨rfl, Below.refl _ _⟩
set_option maxHeartbeats 2000000 in
theorem parts_1 (w : World) : Calls Tryz.prog 114 #[.int .u8 1] w fun e w' => e = .returned (.string ⟨(partsL 1).toArray⟩) ∧ Below w.heap.size w w' := by
  go_enter Tryz.func114, Tryz.ntmps114
  go_wp2_with fail
  go_ret
  exact ⟨rfl, (Below.refl _ _).alloc (Nat.le_refl _) _⟩
set_option maxHeartbeats 2000000 in
theorem parts_2 (w : World) : Calls Tryz.prog 114 #[.int .u8 2] w fun e w' => e = .returned (.string ⟨(partsL 2).toArray⟩) ∧ Below w.heap.size w w' := by
  go_enter Tryz.func114, Tryz.ntmps114
  go_wp2_with fail
  go_ret
  exact ⟨rfl, (Below.refl _ _).alloc (Nat.le_refl _) _⟩
set_option maxHeartbeats 2000000 in
theorem parts_3 (w : World) : Calls Tryz.prog 114 #[.int .u8 3] w fun e w' => e = .returned (.string ⟨(partsL 3).toArray⟩) ∧ Below w.heap.size w w' := by
  go_enter Tryz.func114, Tryz.ntmps114
  go_wp2_with fail
  go_ret
  exact ⟨rfl, (Below.refl _ _).alloc (Nat.le_refl _) _⟩
set_option maxHeartbeats 2000000 in
theorem parts_4 (w : World) : Calls Tryz.prog 114 #[.int .u8 4] w fun e w' => e = .returned (.string ⟨(partsL 4).toArray⟩) ∧ Below w.heap.size w w' := by
  go_enter Tryz.func114, Tryz.ntmps114
  go_wp2_with fail
  go_ret
  exact ⟨rfl, (Below.refl _ _).alloc (Nat.le_refl _) _⟩
set_option maxHeartbeats 2000000 in
theorem parts_5 (w : World) : Calls Tryz.prog 114 #[.int .u8 5] w fun e w' => e = .returned (.string ⟨(partsL 5).toArray⟩) ∧ Below w.heap.size w w' := by
  go_enter Tryz.func114, Tryz.ntmps114
  go_wp2_with fail
  go_ret
  exact ⟨rfl, (Below.refl _ _).alloc (Nat.le_refl _) _⟩
set_option maxHeartbeats 2000000 in
theorem parts_6 (w : World) : Calls Tryz.prog 114 #[.int .u8 6] w fun e w' => e = .returned (.string ⟨(partsL 6).toArray⟩) ∧ Below w.heap.size w w' := by
  go_enter Tryz.func114, Tryz.ntmps114
  go_wp2_with fail
  go_ret
  exact ⟨rfl, (Below.refl _ _).alloc (Nat.le_refl _) _⟩
set_option maxHeartbeats 2000000 in
theorem parts_7 (w : World) : Calls Tryz.prog 114 #[.int .u8 7] w fun e w' => e = .returned (.string ⟨(partsL 7).toArray⟩) ∧ Below w.heap.size w w' := by
  go_enter Tryz.func114, Tryz.ntmps114
  go_wp2_with fail
  go_ret
  exact ⟨rfl, (Below.refl _ _).alloc (Nat.le_refl _) _⟩
set_option maxHeartbeats 2000000 in
theorem parts_8 (w : World) : Calls Tryz.prog 114 #[.int .u8 8] w fun e w' => e = .returned (.string ⟨(partsL 8).toArray⟩) ∧ Below w.heap.size w w' := by
  go_enter Tryz.func114, Tryz.ntmps114
  go_wp2_with fail
  go_ret
  exact ⟨rfl, (Below.refl _ _).alloc (Nat.le_refl _) _⟩
set_option maxHeartbeats 2000000 in
theorem parts_9 (w : World) : Calls Tryz.prog 114 #[.int .u8 9] w fun e w' => e = .returned (.string ⟨(partsL 9).toArray⟩) ∧ Below w.heap.size w w' := by
  go_enter Tryz.func114, Tryz.ntmps114
  go_wp2_with fail
  go_ret
  exact ⟨rfl, (Below.refl _ _).alloc (Nat.le_refl _) _⟩
set_option maxHeartbeats 2000000 in
theorem parts_10 (w : World) : Calls Tryz.prog 114 #[.int .u8 10] w fun e w' => e = .returned (.string ⟨(partsL 10).toArray⟩) ∧ Below w.heap.size w w' := by
  go_enter Tryz.func114, Tryz.ntmps114
  go_wp2_with fail
  go_ret
  exact ⟨rfl, (Below.refl _ _).alloc (Nat.le_refl _) _⟩
set_option maxHeartbeats 2000000 in
theorem parts_11 (w : World) : Calls Tryz.prog 114 #[.int .u8 11] w fun e w' => e = .returned (.string ⟨(partsL 11).toArray⟩) ∧ Below w.heap.size w w' := by
  go_enter Tryz.func114, Tryz.ntmps114
  go_wp2_with fail
  go_ret
  exact ⟨rfl, (Below.refl _ _).alloc (Nat.le_refl _) _⟩
set_option maxHeartbeats 2000000 in
theorem parts_12 (w : World) : Calls Tryz.prog 114 #[.int .u8 12] w fun e w' => e = .returned (.string ⟨(partsL 12).toArray⟩) ∧ Below w.heap.size w w' := by
  go_enter Tryz.func114, Tryz.ntmps114
  go_wp2_with fail
  go_ret
  exact ⟨rfl, (Below.refl _ _).alloc (Nat.le_refl _) _⟩
set_option maxHeartbeats 2000000 in
theorem parts_13 (w : World) : Calls Tryz.prog 114 #[.int .u8 13] w fun e w' => e = .returned (.string ⟨(partsL 13).toArray⟩) ∧ Below w.heap.size w w' := by
  go_enter Tryz.func114, Tryz.ntmps114
  go_wp2_with fail
  go_ret
  exact ⟨rfl, (Below.refl _ _).alloc (Nat.le_refl _) _⟩
set_option maxHeartbeats 2000000 in
theorem parts_14 (w : World) : Calls Tryz.prog 114 #[.int .u8 14] w fun e w' => e = .returned (.string ⟨(partsL 14).toArray⟩) ∧ Below w.heap.size w w' := by
  go_enter Tryz.func114, Tryz.ntmps114
  go_wp2_with fail
  go_ret
  exact ⟨rfl, (Below.refl _ _).alloc (Nat.le_refl _) _⟩
theorem parts_any (o : Nat) (w : World) : Calls Tryz.prog 114 #[.int .u8 o] w fun e w' => e = .returned (.string ⟨(partsL o).toArray⟩) ∧ Below w.heap.size w w' := by
  cases h : isOp o with
  | false =>
    have hp : partsL o = [63] := by
      have h : ¬ (1 ≤ o ∧ o ≤ 14) := of_decide_eq_false h
      by_cases h1 : o < 1
      · have : o = 0 := by omega
        subst this; rfl
      · unfold partsL
        rw [List.getD_eq_getElem?_getD, List.getElem?_eq_none (by simp; omega)]
        rfl
    rw [hp]; exact parts_no o w h
  | true =>
    have h : 1 ≤ o ∧ o ≤ 14 := of_decide_eq_true h
    have h : o = 1 ∨ o = 2 ∨ o = 3 ∨ o = 4 ∨ o = 5 ∨ o = 6 ∨ o = 7 ∨ o = 8 ∨ o = 9 ∨ o = 10 ∨ o = 11 ∨ o = 12 ∨ o = 13 ∨ o = 14 := by omega
    rcases h with rfl | rfl | rfl | rfl | rfl | rfl | rfl | rfl | rfl | rfl | rfl | rfl | rfl | rfl
    · exact parts_1 w
    · exact parts_2 w
    · exact parts_3 w
    · exact parts_4 w
    · exact parts_5 w
    · exact parts_6 w
    · exact parts_7 w
    · exact parts_8 w
    · exact parts_9 w
    · exact parts_10 w
    · exact parts_11 w
    · exact parts_12 w
    · exact parts_13 w
    · exact parts_14 w

set_option maxHeartbeats 2000000 in
theorem has_any (l : List UInt8) (c : UInt8) (w : World) (hl : l.length ≤ 1000000) : Calls Tryz.prog 116 #[.string ⟨l.toArray⟩, .int .u8 c.toNat] w fun e w' => e = .returned (.bool (decide (c ∈ l))) ∧ w = w' := by
  obtain ⟨n, hn⟩ : ∃ n, n = l.length := ⟨_, rfl⟩
  have hsz : (⟨l.toArray⟩ : ByteArray).size = n := by rw [hn]; simp [ByteArray.size]
  have HN := Lib.hid hn
  clear hn
  go_enter Tryz.func116, Tryz.ntmps116
  go_wp2_with fail
  go_loopg [5] n (fun gk v wr => ∃ i : Nat, i ≤ n ∧ n - i ≤ gk ∧ v = .int .i64 i ∧ wr = w ∧ Hid (c ∉ l.take i))
  case atStart => exact ⟨0, Nat.zero_le _, Nat.le_refl _, rfl, rfl, Lib.hid (by simp)⟩
  case round =>
    obtain ⟨i, hi, hgk, rfl, rfl, HI⟩ := hrel
    by_cases hlt : i < n
    case neg =>
      have q : decide ((i : Int) < (n : Int)) = false := decide_eq_false (by omega)
      go_wp2_with fail
      go_ret
      refine ⟨ret_b (decide_eq_false ?_).symm, rfl⟩
      have := HI.out
      rwa [List.take_of_length_le (by have := HN.out; omega)] at this
    case pos =>
      have q : decide ((i : Int) < (n : Int)) = true := decide_eq_true (by omega)
      have hil : i < l.length := by rw [← HN.out]; exact hlt
      obtain ⟨y, hy⟩ : ∃ y, l[i]? = some y := ⟨_, List.getElem?_eq_getElem hil⟩
      have hget : ((⟨l.toArray⟩ : ByteArray)[i]'(by rw [hsz]; exact hlt)) = y := by
        have : l.toArray[i]'(by simpa using hil) = y := by simpa [List.getElem?_eq_getElem hil] using hy
        exact this
      have HY := Lib.hid hy
      clear hy
      by_cases hcy : y = c
      case pos =>
        subst hcy
        have q2 : (((⟨l.toArray⟩ : ByteArray)[i]'(by rw [hsz]; exact hlt)).toNat : Int) = (y.toNat : Int) := by rw [hget]
        go_wp2_with fail
        go_ret
        exact ⟨ret_b (decide_eq_true (List.mem_of_getElem? HY.out)).symm, rfl⟩
      case neg =>
        have q2 : ((y.toNat : Int) == (c.toNat : Int)) = false := by
          simp only [beq_eq_false_iff_ne, ne_eq]
          intro hh
          exact hcy (UInt8.toNat_inj.1 (by omega))
        have HI2 := Lib.hid (show c ∉ l.take (i + 1) by
          rw [List.take_add_one, HY.out]
          intro hm
          rcases List.mem_append.1 hm with hm | hm
          · exact HI.out hm
          · simp at hm; exact hcy hm.symm)
        go_wp2_with fail
        cases gk with
        | zero => omega
        | succ gk =>
          go_roundg gk
          case measure => omega
          case rel => exact ⟨i + 1, by omega, by omega, by simp, rfl, HI2⟩
end Go.Proofs.YtgdibfnpkcdiiaaGreatDoor

/- Is an instruction as the table says (three's one)? By an AI agent. -/
namespace Go.Proofs.YtgdibfnpkcdiiaaGreatDoor
open Go.RowKit

set_option maxHeartbeats 1000000 in
theorem wrong_any (k vars : Int) (b : Nat) (w : World) (h : w.cell? ⟨b, 2, none⟩ = some (.int .i64 vars)) : Calls Tryz.prog 112 #[.int .i64 k, .pointer (some ⟨b, 0, none⟩)] w fun e w' => e = .returned (.bool (!decide (0 ≤ k ∧ k < vars))) ∧ w = w' := by
  by_cases h1 : k < 0
  · have q1 : decide (k < 0) = true := decide_eq_true h1
    go_enter Tryz.func112, Tryz.ntmps112
    go_wp2_with fail
    go_ret
    exact ⟨ret_b (by first | rfl | (simp; omega) | simp_all), rfl⟩
  · have q1 : decide (k < 0) = false := decide_eq_false h1
    by_cases h2 : vars ≤ k
    · have q2 : decide (vars ≤ k) = true := decide_eq_true h2
      go_enter Tryz.func112, Tryz.ntmps112
      go_wp2_with fail
      go_ret
      exact ⟨ret_b (by first | rfl | (simp; omega) | simp_all), rfl⟩
    · have q2 : decide (vars ≤ k) = false := decide_eq_false h2
      go_enter Tryz.func112, Tryz.ntmps112
      go_wp2_with fail
      go_ret
      exact ⟨ret_b (by first | rfl | (simp; omega) | simp_all), rfl⟩

theorem wrong_b (k vars : Int) (b : Nat) (w : World) (h : w.cell? ⟨b, 2, none⟩ = some (.int .i64 vars)) : Calls Tryz.prog 112 #[.int .i64 k, .pointer (some ⟨b, 0, none⟩)] w fun e w' => e = .returned (.bool (!decide (0 ≤ k ∧ k < vars))) ∧ Below w.heap.size w w' :=
  (wrong_any k vars b w h).mono fun _ _ h => ⟨h.1, h.2 ▸ Below.refl _ _⟩
theorem enter112 (a p : Value) (W : World) : (callFunc 112 #[a, p]).run Tryz.prog W = .ok (.enter 112 #[a, p]) W := by kernel_rfl
theorem fits_b (has : Bool) (n many : Int) (w : World) : Calls Tryz.prog 111 #[.bool has, .int .i64 n, .int .i64 many] w fun e w' => e = .returned (.bool (fitsW has n many)) ∧ Below w.heap.size w w' :=
  (fits_any has n many w).mono fun _ _ h => ⟨h.1, h.2 ▸ Below.refl _ _⟩
set_option maxRecDepth 100000 in
set_option maxHeartbeats 8000000 in
theorem one_any (g : PrG) (f : FnG) (x : InV) (w : World) (hg : PrR w g) (hf : InsV w f.cv f.l) (hfe : f.l.map (·.1) = f.fn.code) (hx : IntsV w x.2 x.1.args) (ho : x.1.op < 256) (hal : x.1.args.length ≤ 1000000) :
    Calls Tryz.prog 48 #[prV g, fnV f, insV x] w fun e w' => e = .returned (.bool (oneW g.p f.fn x.1)) ∧ Below w.heap.size w w' := by
  obtain ⟨p, av, fv, l⟩ := g
  obtain ⟨fn, cv, il⟩ := f
  obtain ⟨x, xv⟩ := x
  obtain ⟨ha, hfs, he⟩ := hg
  obtain ⟨A, ca, hav, hca, _⟩ := ha
  obtain ⟨F, cf, hfv, hcf, hfr⟩ := hfs
  obtain ⟨C, cc, hcv, hcc, _⟩ := hf
  obtain ⟨X, cx, hxv, hcx, hxr⟩ := hx
  dsimp only at hav hfv hcv hxv he hfe ho hfr hxr hca hcf hcc hcx hal
  subst hav; subst hfv; subst hcv; subst hxv
  obtain ⟨na, hna⟩ : ∃ n, n = p.arrays.length := ⟨_, rfl⟩
  obtain ⟨nl, hnl⟩ : ∃ n, n = l.length := ⟨_, rfl⟩
  obtain ⟨nc, hnc⟩ : ∃ n, n = il.length := ⟨_, rfl⟩
  obtain ⟨ng, hng⟩ : ∃ n, n = x.args.length := ⟨_, rfl⟩
  have hfl : p.fns.length = nl := by rw [← he, List.length_map, hnl]
  have hcl : fn.code.length = nc := by rw [← hfe, List.length_map, hnc]
  unfold prV fnV insV
  dsimp only
  have hone : oneW p fn x = (isOp x.op && fitsW (hasV x.op) x.v fn.vars && fitsW (hasA x.op) x.a fn.vars && fitsW (hasB x.op) x.b fn.vars && fitsW (hasG x.op) x.f nl && fitsW (hasR x.op) x.arr na && fitsW (hasT x.op) x.to nc
    && ((hasN x.op || decide (x.n = 0)) && (if hasO x.op then decide (x.bin ∈ binsW) else decide (x.bin = 0)) && decide ((ng : Int) = manyW p x) && x.args.all (fun v => decide (0 ≤ v ∧ v < fn.vars)))) := by
    rw [oneW, isOp, hna, ← hfl, ← hcl, hng]
  rw [← hna, ← hnl, ← hnc, ← hng]
  have HO := Lib.hid hone
  have HNA := Lib.hid hna; have HNL := Lib.hid hnl; have HNC := Lib.hid hnc; have HNG := Lib.hid hng; have HE := Lib.hid he; have HFE := Lib.hid hfe; have HFL := Lib.hid hfl
  have HFR := Lib.hid hfr; have HXR := Lib.hid hxr; have HAL := Lib.hid hal; have HCX := Lib.hid (show ng ≤ cx by rw [hng]; exact hcx)
  clear hal hone hna hnl hnc hng he hfe hfl hcl hfr hxr hca hcf hcc hcx
  generalize hr : oneW p fn x = res at HO ⊢
  clear hr
  obtain ⟨W0, hW0⟩ : ∃ W0, W0 = ((w.alloc (.cells #[.slice A na ca, .slice F nl cf, .int .i64 p.main] 25)).alloc (.cells #[.string ⟨fn.name.toArray⟩, .int .i64 fn.params, .int .i64 fn.vars, .slice C nc cc] 67)).alloc
    (.cells #[.int .u8 x.op, .int .i64 x.v, .int .i64 x.a, .int .i64 x.b, .int .i64 x.n, .int .u8 x.bin, .slice X ng cx, .int .i64 x.f, .int .i64 x.arr, .int .i64 x.to] 71) := ⟨_, rfl⟩
  have b1 := ((Blk.new w 25 #[.slice A na ca, .slice F nl cf, .int .i64 p.main]).alloc (.cells #[.string ⟨fn.name.toArray⟩, .int .i64 fn.params, .int .i64 fn.vars, .slice C nc cc] 67)).alloc
    (.cells #[.int .u8 x.op, .int .i64 x.v, .int .i64 x.a, .int .i64 x.b, .int .i64 x.n, .int .u8 x.bin, .slice X ng cx, .int .i64 x.f, .int .i64 x.arr, .int .i64 x.to] 71)
  have b2 := (Blk.new (w.alloc (.cells #[.slice A na ca, .slice F nl cf, .int .i64 p.main] 25)) 67 #[.string ⟨fn.name.toArray⟩, .int .i64 fn.params, .int .i64 fn.vars, .slice C nc cc]).alloc
    (.cells #[.int .u8 x.op, .int .i64 x.v, .int .i64 x.a, .int .i64 x.b, .int .i64 x.n, .int .u8 x.bin, .slice X ng cx, .int .i64 x.f, .int .i64 x.arr, .int .i64 x.to] 71)
  have b3 := Blk.new ((w.alloc (.cells #[.slice A na ca, .slice F nl cf, .int .i64 p.main] 25)).alloc (.cells #[.string ⟨fn.name.toArray⟩, .int .i64 fn.params, .int .i64 fn.vars, .slice C nc cc] 67)) 71
    #[.int .u8 x.op, .int .i64 x.v, .int .i64 x.a, .int .i64 x.b, .int .i64 x.n, .int .u8 x.bin, .slice X ng cx, .int .i64 x.f, .int .i64 x.arr, .int .i64 x.to]
  have hb0 : Below w.heap.size w W0 := by rw [hW0]; exact (((Below.refl _ _).alloc (Nat.le_refl _) _).alloc (by simp) _).alloc (by simp; omega) _
  rw [← hW0] at b1 b2 b3
  have hs0 : W0.heap.size = w.heap.size + 3 := by rw [hW0]; simp
  simp only [World.size_alloc] at b2 b3
  have B1 := Lib.hid b1; have B2 := Lib.hid b2; have B3 := Lib.hid b3; have HB0 := Lib.hid hb0; have HS0 := Lib.hid hs0; have HW0 := Lib.hid hW0
  clear b1 b2 b3 hb0 hs0 hW0
  go_enter Tryz.func48, Tryz.ntmps48
  go_wp2_with fail
  refine (forms_any x.op _ ho).mono ?_
  rintro e w1 ⟨rfl, hb1⟩
  rw [← HW0.out] at hb1
  have b1 := B1.out.below hb1; have b2 := B2.out.below hb1; have b3 := B3.out.below hb1
  have c10 := b1.cell 0; have c11 := b1.cell 1; have c22 := b2.cell 2; have c23 := b2.cell 3
  have c30 := b3.cell 0; have c31 := b3.cell 1; have c32 := b3.cell 2; have c33 := b3.cell 3; have c34 := b3.cell 4; have c35 := b3.cell 5; have c36 := b3.cell 6; have c37 := b3.cell 7; have c38 := b3.cell 8; have c39 := b3.cell 9
  simp only [List.getElem?_toArray, List.getElem?_cons_zero, List.getElem?_cons_succ] at c10 c11 c22 c23 c30 c31 c32 c33 c34 c35 c36 c37 c38 c39
  have hlt : w.heap.size + 3 ≤ w1.heap.size := by have := hb1.size; rw [HS0.out] at this; exact this
  have HB1 := Lib.hid (HB0.out.trans (hb1.mono (by rw [HS0.out]; omega)))
  clear hb1 b1 b2 b3
  unfold formV
  generalize hasV x.op = tV at HO ⊢
  generalize hasA x.op = tA at HO ⊢
  generalize hasB x.op = tB at HO ⊢
  generalize hasN x.op = tN at HO ⊢
  generalize hasO x.op = tO at HO ⊢
  generalize hG : hasG x.op = tG at HO ⊢
  have HG := Lib.hid hG
  clear hG
  generalize hasR x.op = tR at HO ⊢
  generalize hasT x.op = tT at HO ⊢
  generalize isOp x.op = tI at HO ⊢
  have sc := run_storeCells_new (P := Tryz.prog) w1 160 #[.bool false, .bool false, .bool false, .bool false, .bool false, .bool false, .bool false, .bool false, .bool false] #[.bool tV, .bool tA, .bool tB, .bool tN, .bool tO, .bool tG, .bool tG, .bool tR, .bool tT] (by kernel_rfl) rfl (by simp [Value.oneCell'])
  dsimp only at sc
  have hb2 : Below w1.heap.size w1 (w1.alloc (.cells #[.bool tV, .bool tA, .bool tB, .bool tN, .bool tO, .bool tG, .bool tG, .bool tR, .bool tT] 160)) := (Below.refl _ _).alloc (Nat.le_refl _) _
  have HB2 := Lib.hid (HB1.out.trans (hb2.mono (by omega)))
  have ec10 := get_b hb2 c10
  have ec11 := get_b hb2 c11
  have ec22 := get_b hb2 c22
  have ec23 := get_b hb2 c23
  have ec30 := get_b hb2 c30
  have ec31 := get_b hb2 c31
  have ec32 := get_b hb2 c32
  have ec33 := get_b hb2 c33
  have ec34 := get_b hb2 c34
  have ec35 := get_b hb2 c35
  have ec36 := get_b hb2 c36
  have ec37 := get_b hb2 c37
  have ec38 := get_b hb2 c38
  have ec39 := get_b hb2 c39
  have ec40 : (w1.alloc (.cells #[.bool tV, .bool tA, .bool tB, .bool tN, .bool tO, .bool tG, .bool tG, .bool tR, .bool tT] 160)).cell? ⟨w1.heap.size, 0, none⟩ = some (.bool tV) := (Blk.new w1 160 #[.bool tV, .bool tA, .bool tB, .bool tN, .bool tO, .bool tG, .bool tG, .bool tR, .bool tT]).cell 0
  have ec41 : (w1.alloc (.cells #[.bool tV, .bool tA, .bool tB, .bool tN, .bool tO, .bool tG, .bool tG, .bool tR, .bool tT] 160)).cell? ⟨w1.heap.size, 1, none⟩ = some (.bool tA) := (Blk.new w1 160 #[.bool tV, .bool tA, .bool tB, .bool tN, .bool tO, .bool tG, .bool tG, .bool tR, .bool tT]).cell 1
  have ec42 : (w1.alloc (.cells #[.bool tV, .bool tA, .bool tB, .bool tN, .bool tO, .bool tG, .bool tG, .bool tR, .bool tT] 160)).cell? ⟨w1.heap.size, 2, none⟩ = some (.bool tB) := (Blk.new w1 160 #[.bool tV, .bool tA, .bool tB, .bool tN, .bool tO, .bool tG, .bool tG, .bool tR, .bool tT]).cell 2
  have ec43 : (w1.alloc (.cells #[.bool tV, .bool tA, .bool tB, .bool tN, .bool tO, .bool tG, .bool tG, .bool tR, .bool tT] 160)).cell? ⟨w1.heap.size, 3, none⟩ = some (.bool tN) := (Blk.new w1 160 #[.bool tV, .bool tA, .bool tB, .bool tN, .bool tO, .bool tG, .bool tG, .bool tR, .bool tT]).cell 3
  have ec44 : (w1.alloc (.cells #[.bool tV, .bool tA, .bool tB, .bool tN, .bool tO, .bool tG, .bool tG, .bool tR, .bool tT] 160)).cell? ⟨w1.heap.size, 4, none⟩ = some (.bool tO) := (Blk.new w1 160 #[.bool tV, .bool tA, .bool tB, .bool tN, .bool tO, .bool tG, .bool tG, .bool tR, .bool tT]).cell 4
  have ec45 : (w1.alloc (.cells #[.bool tV, .bool tA, .bool tB, .bool tN, .bool tO, .bool tG, .bool tG, .bool tR, .bool tT] 160)).cell? ⟨w1.heap.size, 5, none⟩ = some (.bool tG) := (Blk.new w1 160 #[.bool tV, .bool tA, .bool tB, .bool tN, .bool tO, .bool tG, .bool tG, .bool tR, .bool tT]).cell 5
  have ec46 : (w1.alloc (.cells #[.bool tV, .bool tA, .bool tB, .bool tN, .bool tO, .bool tG, .bool tG, .bool tR, .bool tT] 160)).cell? ⟨w1.heap.size, 6, none⟩ = some (.bool tG) := (Blk.new w1 160 #[.bool tV, .bool tA, .bool tB, .bool tN, .bool tO, .bool tG, .bool tG, .bool tR, .bool tT]).cell 6
  have ec47 : (w1.alloc (.cells #[.bool tV, .bool tA, .bool tB, .bool tN, .bool tO, .bool tG, .bool tG, .bool tR, .bool tT] 160)).cell? ⟨w1.heap.size, 7, none⟩ = some (.bool tR) := (Blk.new w1 160 #[.bool tV, .bool tA, .bool tB, .bool tN, .bool tO, .bool tG, .bool tG, .bool tR, .bool tT]).cell 7
  have ec48 : (w1.alloc (.cells #[.bool tV, .bool tA, .bool tB, .bool tN, .bool tO, .bool tG, .bool tG, .bool tR, .bool tT] 160)).cell? ⟨w1.heap.size, 8, none⟩ = some (.bool tT) := (Blk.new w1 160 #[.bool tV, .bool tA, .bool tB, .bool tN, .bool tO, .bool tG, .bool tG, .bool tR, .bool tT]).cell 8
  clear hb2 c10 c11 c22 c23 c30 c31 c32 c33 c34 c35 c36 c37 c38 c39
  have HC := Lib.hid (⟨ec10, ec11, ec22, ec23, ec30, ec31, ec32, ec33, ec34, ec35, ec36, ec37, ec38, ec39, ec40, ec41, ec42, ec43, ec44, ec45, ec46, ec47, ec48⟩ : _ ∧ _ ∧ _ ∧ _ ∧ _ ∧ _ ∧ _ ∧ _ ∧ _ ∧ _ ∧ _ ∧ _ ∧ _ ∧ _ ∧ _ ∧ _ ∧ _ ∧ _ ∧ _ ∧ _ ∧ _ ∧ _ ∧ _)
  clear ec10 ec11 ec22 ec23 ec30 ec31 ec32 ec33 ec34 ec35 ec36 ec37 ec38 ec39 ec40 ec41 ec42 ec43 ec44 ec45 ec46 ec47 ec48
  go_upto_region 2 with fail
  clear sc
  obtain ⟨W2, hW2⟩ : ∃ W2, W2 = w1.alloc (.cells #[.bool tV, .bool tA, .bool tB, .bool tN, .bool tO, .bool tG, .bool tG, .bool tR, .bool tT] 160) := ⟨_, rfl⟩
  rw [← hW2] at HC HB2 ⊢
  clear hW2
  obtain ⟨ec10, ec11, ec22, ec23, ec30, ec31, ec32, ec33, ec34, ec35, ec36, ec37, ec38, ec39, ec40, ec41, ec42, ec43, ec44, ec45, ec46, ec47, ec48⟩ := HC.out
  clear HC
  have EC10 := Lib.hid ec10; clear ec10
  have EC11 := Lib.hid ec11; clear ec11
  have EC22 := Lib.hid ec22; clear ec22
  have EC23 := Lib.hid ec23; clear ec23
  have EC30 := Lib.hid ec30; clear ec30
  have EC31 := Lib.hid ec31; clear ec31
  have EC32 := Lib.hid ec32; clear ec32
  have EC33 := Lib.hid ec33; clear ec33
  have EC34 := Lib.hid ec34; clear ec34
  have EC35 := Lib.hid ec35; clear ec35
  have EC36 := Lib.hid ec36; clear ec36
  have EC37 := Lib.hid ec37; clear ec37
  have EC38 := Lib.hid ec38; clear ec38
  have EC39 := Lib.hid ec39; clear ec39
  have EC40 := Lib.hid ec40; clear ec40
  have EC41 := Lib.hid ec41; clear ec41
  have EC42 := Lib.hid ec42; clear ec42
  have EC43 := Lib.hid ec43; clear ec43
  have EC44 := Lib.hid ec44; clear ec44
  have EC45 := Lib.hid ec45; clear ec45
  have EC46 := Lib.hid ec46; clear ec46
  have EC47 := Lib.hid ec47; clear ec47
  have EC48 := Lib.hid ec48; clear ec48
  obtain ⟨m1, hm1⟩ : ∃ m, m = fitsW tV x.v fn.vars := ⟨_, rfl⟩
  obtain ⟨m2, hm2⟩ : ∃ m, m = fitsW tA x.a fn.vars := ⟨_, rfl⟩
  obtain ⟨m3, hm3⟩ : ∃ m, m = fitsW tB x.b fn.vars := ⟨_, rfl⟩
  obtain ⟨m4, hm4⟩ : ∃ m, m = fitsW tG x.f nl := ⟨_, rfl⟩
  obtain ⟨m5, hm5⟩ : ∃ m, m = fitsW tR x.arr na := ⟨_, rfl⟩
  obtain ⟨m6, hm6⟩ : ∃ m, m = fitsW tT x.to nc := ⟨_, rfl⟩
  have hres : res = (tI && m1 && m2 && m3 && m4 && m5 && m6 && ((tN || decide (x.n = 0)) && (if tO then decide (x.bin ∈ binsW) else decide (x.bin = 0)) && decide ((ng : Int) = manyW p x) && x.args.all (fun v => decide (0 ≤ v ∧ v < fn.vars)))) := by rw [HO.out, hm1, hm2, hm3, hm4, hm5, hm6]
  have HR := Lib.hid hres; clear hres HO
  have HM1 := Lib.hid hm1; clear hm1
  have HM2 := Lib.hid hm2; clear hm2
  have HM3 := Lib.hid hm3; clear hm3
  have HM4 := Lib.hid hm4; clear hm4
  have HM5 := Lib.hid hm5; clear hm5
  have HM6 := Lib.hid hm6; clear hm6
  obtain ⟨bb0, hbb0⟩ : ∃ b : Bool, b = (!tI) := ⟨_, rfl⟩
  have Hbb0 := Lib.hid hbb0; clear hbb0
  obtain ⟨bb1, hbb1⟩ : ∃ b : Bool, b = (bb0 || (!m1)) := ⟨_, rfl⟩
  have Hbb1 := Lib.hid hbb1; clear hbb1
  obtain ⟨bb2, hbb2⟩ : ∃ b : Bool, b = (bb1 || (!m2)) := ⟨_, rfl⟩
  have Hbb2 := Lib.hid hbb2; clear hbb2
  obtain ⟨bb3, hbb3⟩ : ∃ b : Bool, b = (bb2 || (!m3)) := ⟨_, rfl⟩
  have Hbb3 := Lib.hid hbb3; clear hbb3
  obtain ⟨bb4, hbb4⟩ : ∃ b : Bool, b = (bb3 || (!m4)) := ⟨_, rfl⟩
  have Hbb4 := Lib.hid hbb4; clear hbb4
  obtain ⟨bb5, hbb5⟩ : ∃ b : Bool, b = (bb4 || (!m5)) := ⟨_, rfl⟩
  have Hbb5 := Lib.hid hbb5; clear hbb5
  obtain ⟨bb6, hbb6⟩ : ∃ b : Bool, b = (bb5 || (!m6)) := ⟨_, rfl⟩
  have Hbb6 := Lib.hid hbb6; clear hbb6
  refine wp_region_vals [(none, .bool tI), (none, .bool (!tI)), (none, .bool bb0), (some (19, false), gd bb0 false (.pointer (some ⟨w1.heap.size, 0, none⟩))), (some (19, false), gd bb0 false (.bool tV)), (some (19, false), gd bb0 false (.pointer (some ⟨(w.heap.size + 1 + 1), 1, none⟩))), (some (19, false), gd bb0 false (.int .i64 x.v)), (some (19, false), gd bb0 false (.pointer (some ⟨(w.heap.size + 1), 2, none⟩))), (some (19, false), gd bb0 false (.int .i64 fn.vars)), (some (19, false), gd bb0 false (.bool m1)), (some (19, false), gd bb0 false (.bool (!m1))), (none, .bool bb1), (none, .bool bb1), (some (29, false), gd bb1 false (.pointer (some ⟨w1.heap.size, 1, none⟩))), (some (29, false), gd bb1 false (.bool tA)), (some (29, false), gd bb1 false (.pointer (some ⟨(w.heap.size + 1 + 1), 2, none⟩))), (some (29, false), gd bb1 false (.int .i64 x.a)), (some (29, false), gd bb1 false (.pointer (some ⟨(w.heap.size + 1), 2, none⟩))), (some (29, false), gd bb1 false (.int .i64 fn.vars)), (some (29, false), gd bb1 false (.bool m2)), (some (29, false), gd bb1 false (.bool (!m2))), (none, .bool bb2), (none, .bool bb2), (some (39, false), gd bb2 false (.pointer (some ⟨w1.heap.size, 2, none⟩))), (some (39, false), gd bb2 false (.bool tB)), (some (39, false), gd bb2 false (.pointer (some ⟨(w.heap.size + 1 + 1), 3, none⟩))), (some (39, false), gd bb2 false (.int .i64 x.b)), (some (39, false), gd bb2 false (.pointer (some ⟨(w.heap.size + 1), 2, none⟩))), (some (39, false), gd bb2 false (.int .i64 fn.vars)), (some (39, false), gd bb2 false (.bool m3)), (some (39, false), gd bb2 false (.bool (!m3))), (none, .bool bb3), (none, .bool bb3), (some (49, false), gd bb3 false (.pointer (some ⟨w1.heap.size, 6, none⟩))), (some (49, false), gd bb3 false (.bool tG)), (some (49, false), gd bb3 false (.pointer (some ⟨(w.heap.size + 1 + 1), 7, none⟩))), (some (49, false), gd bb3 false (.int .i64 x.f)), (some (49, false), gd bb3 false (.pointer (some ⟨w.heap.size, 1, none⟩))), (some (49, false), gd bb3 false (.slice F nl cf)), (some (49, false), gd bb3 false (.int .i64 (nl : Int))), (some (49, false), gd bb3 false (.bool m4)), (some (49, false), gd bb3 false (.bool (!m4))), (none, .bool bb4), (none, .bool bb4), (some (60, false), gd bb4 false (.pointer (some ⟨w1.heap.size, 7, none⟩))), (some (60, false), gd bb4 false (.bool tR)), (some (60, false), gd bb4 false (.pointer (some ⟨(w.heap.size + 1 + 1), 8, none⟩))), (some (60, false), gd bb4 false (.int .i64 x.arr)), (some (60, false), gd bb4 false (.pointer (some ⟨w.heap.size, 0, none⟩))), (some (60, false), gd bb4 false (.slice A na ca)), (some (60, false), gd bb4 false (.int .i64 (na : Int))), (some (60, false), gd bb4 false (.bool m5)), (some (60, false), gd bb4 false (.bool (!m5))), (none, .bool bb5), (none, .bool bb5), (some (71, false), gd bb5 false (.pointer (some ⟨w1.heap.size, 8, none⟩))), (some (71, false), gd bb5 false (.bool tT)), (some (71, false), gd bb5 false (.pointer (some ⟨(w.heap.size + 1 + 1), 9, none⟩))), (some (71, false), gd bb5 false (.int .i64 x.to)), (some (71, false), gd bb5 false (.pointer (some ⟨(w.heap.size + 1), 3, none⟩))), (some (71, false), gd bb5 false (.slice C nc cc)), (some (71, false), gd bb5 false (.int .i64 (nc : Int))), (some (71, false), gd bb5 false (.bool m6)), (some (71, false), gd bb5 false (.bool (!m6))), (none, .bool bb6)] mixed (by kernel_rfl) ?_
  intro FF hF
  have hL : HasL FF [(3, .pointer (some ⟨w.heap.size, 0, none⟩)), (4, .pointer (some ⟨(w.heap.size + 1), 0, none⟩)), (5, .pointer (some ⟨(w.heap.size + 1 + 1), 0, none⟩)), (7, .pointer (some ⟨w1.heap.size, 0, none⟩)), (8, .bool tI), (17, .bool tI), (18, .bool (!tI)), (19, .bool bb0), (20, gd bb0 false (.pointer (some ⟨w1.heap.size, 0, none⟩))), (21, gd bb0 false (.bool tV)), (22, gd bb0 false (.pointer (some ⟨(w.heap.size + 1 + 1), 1, none⟩))), (23, gd bb0 false (.int .i64 x.v)), (24, gd bb0 false (.pointer (some ⟨(w.heap.size + 1), 2, none⟩))), (25, gd bb0 false (.int .i64 fn.vars)), (26, gd bb0 false (.bool m1)), (27, gd bb0 false (.bool (!m1))), (28, .bool bb1), (29, .bool bb1), (30, gd bb1 false (.pointer (some ⟨w1.heap.size, 1, none⟩))), (31, gd bb1 false (.bool tA)), (32, gd bb1 false (.pointer (some ⟨(w.heap.size + 1 + 1), 2, none⟩))), (33, gd bb1 false (.int .i64 x.a)), (34, gd bb1 false (.pointer (some ⟨(w.heap.size + 1), 2, none⟩))), (35, gd bb1 false (.int .i64 fn.vars)), (36, gd bb1 false (.bool m2)), (37, gd bb1 false (.bool (!m2))), (38, .bool bb2), (39, .bool bb2), (40, gd bb2 false (.pointer (some ⟨w1.heap.size, 2, none⟩))), (41, gd bb2 false (.bool tB)), (42, gd bb2 false (.pointer (some ⟨(w.heap.size + 1 + 1), 3, none⟩))), (43, gd bb2 false (.int .i64 x.b)), (44, gd bb2 false (.pointer (some ⟨(w.heap.size + 1), 2, none⟩))), (45, gd bb2 false (.int .i64 fn.vars)), (46, gd bb2 false (.bool m3)), (47, gd bb2 false (.bool (!m3))), (48, .bool bb3), (49, .bool bb3), (50, gd bb3 false (.pointer (some ⟨w1.heap.size, 6, none⟩))), (51, gd bb3 false (.bool tG)), (52, gd bb3 false (.pointer (some ⟨(w.heap.size + 1 + 1), 7, none⟩))), (53, gd bb3 false (.int .i64 x.f)), (54, gd bb3 false (.pointer (some ⟨w.heap.size, 1, none⟩))), (55, gd bb3 false (.slice F nl cf)), (56, gd bb3 false (.int .i64 (nl : Int))), (57, gd bb3 false (.bool m4)), (58, gd bb3 false (.bool (!m4))), (59, .bool bb4), (60, .bool bb4), (61, gd bb4 false (.pointer (some ⟨w1.heap.size, 7, none⟩))), (62, gd bb4 false (.bool tR)), (63, gd bb4 false (.pointer (some ⟨(w.heap.size + 1 + 1), 8, none⟩))), (64, gd bb4 false (.int .i64 x.arr)), (65, gd bb4 false (.pointer (some ⟨w.heap.size, 0, none⟩))), (66, gd bb4 false (.slice A na ca)), (67, gd bb4 false (.int .i64 (na : Int))), (68, gd bb4 false (.bool m5)), (69, gd bb4 false (.bool (!m5))), (70, .bool bb5), (71, .bool bb5), (72, gd bb5 false (.pointer (some ⟨w1.heap.size, 8, none⟩))), (73, gd bb5 false (.bool tT)), (74, gd bb5 false (.pointer (some ⟨(w.heap.size + 1 + 1), 9, none⟩))), (75, gd bb5 false (.int .i64 x.to)), (76, gd bb5 false (.pointer (some ⟨(w.heap.size + 1), 3, none⟩))), (77, gd bb5 false (.slice C nc cc)), (78, gd bb5 false (.int .i64 (nc : Int))), (79, gd bb5 false (.bool m6)), (80, gd bb5 false (.bool (!m6))), (81, .bool bb6)] := by unfold HasL; rw [hF]; kernel_rfl
  have HF := Lib.hid hF; clear hF
  refine ⟨?_, ?_⟩
  · intro W hW
    repeat clear ‹∀ (a : Act) (w : World), Code.wp Tryz.prog _ _ a w → _›
    have gff := gd_ff
    have gtt := gd_tt
    exact
    ResL.cons (OpRes.val (by have a8 := hL.at 4 rfl; go_simp)) (
    ResL.cons (OpRes.val (by have a17 := hL.at 5 rfl; go_simp)) (
    ResL.cons (OpRes.val (by rw [Hbb0.out]; have a18 := hL.at 6 rfl; go_simp)) (
    ResL.cons (OpRes.gval (hL.at 7 rfl) (fun e0 => by have a7 := hL.at 3 rfl; subst e0; go_simp)) (
    ResL.cons (OpRes.gval (hL.at 7 rfl) (fun e0 => by have a20 := hL.at 8 rfl; have kk := get_b hW EC40.out; subst e0; go_simp)) (
    ResL.cons (OpRes.gval (hL.at 7 rfl) (fun e0 => by have a5 := hL.at 2 rfl; subst e0; go_simp)) (
    ResL.cons (OpRes.gval (hL.at 7 rfl) (fun e0 => by have a22 := hL.at 10 rfl; have kk := get_b hW EC31.out; subst e0; go_simp)) (
    ResL.cons (OpRes.gval (hL.at 7 rfl) (fun e0 => by have a4 := hL.at 1 rfl; subst e0; go_simp)) (
    ResL.cons (OpRes.gval (hL.at 7 rfl) (fun e0 => by have a24 := hL.at 12 rfl; have kk := get_b hW EC22.out; subst e0; go_simp)) (
    ResL.cons (OpRes.gcall 111 #[.bool tV, .int .i64 x.v, .int .i64 fn.vars] (hL.at 7 rfl) (fun e0 => by have a21 := hL.at 9 rfl; have a23 := hL.at 11 rfl; have a25 := hL.at 13 rfl; subst e0; go_simp) (fun e0 => (by rw [HM1.out]; exact fits_b _ _ _ _))) (
    ResL.cons (OpRes.gval (hL.at 7 rfl) (fun e0 => by have a26 := hL.at 14 rfl; subst e0; go_simp)) (
    ResL.cons (OpRes.val (by rw [Hbb1.out]; have a19 := hL.at 7 rfl; have a27 := hL.at 15 rfl; cases bb0 <;> go_simp)) (
    ResL.cons (OpRes.val (by have a28 := hL.at 16 rfl; go_simp)) (
    ResL.cons (OpRes.gval (hL.at 17 rfl) (fun e0 => by have a7 := hL.at 3 rfl; subst e0; go_simp)) (
    ResL.cons (OpRes.gval (hL.at 17 rfl) (fun e0 => by have a30 := hL.at 18 rfl; have kk := get_b hW EC41.out; subst e0; go_simp)) (
    ResL.cons (OpRes.gval (hL.at 17 rfl) (fun e0 => by have a5 := hL.at 2 rfl; subst e0; go_simp)) (
    ResL.cons (OpRes.gval (hL.at 17 rfl) (fun e0 => by have a32 := hL.at 20 rfl; have kk := get_b hW EC32.out; subst e0; go_simp)) (
    ResL.cons (OpRes.gval (hL.at 17 rfl) (fun e0 => by have a4 := hL.at 1 rfl; subst e0; go_simp)) (
    ResL.cons (OpRes.gval (hL.at 17 rfl) (fun e0 => by have a34 := hL.at 22 rfl; have kk := get_b hW EC22.out; subst e0; go_simp)) (
    ResL.cons (OpRes.gcall 111 #[.bool tA, .int .i64 x.a, .int .i64 fn.vars] (hL.at 17 rfl) (fun e0 => by have a31 := hL.at 19 rfl; have a33 := hL.at 21 rfl; have a35 := hL.at 23 rfl; subst e0; go_simp) (fun e0 => (by rw [HM2.out]; exact fits_b _ _ _ _))) (
    ResL.cons (OpRes.gval (hL.at 17 rfl) (fun e0 => by have a36 := hL.at 24 rfl; subst e0; go_simp)) (
    ResL.cons (OpRes.val (by rw [Hbb2.out]; have a29 := hL.at 17 rfl; have a37 := hL.at 25 rfl; cases bb1 <;> go_simp)) (
    ResL.cons (OpRes.val (by have a38 := hL.at 26 rfl; go_simp)) (
    ResL.cons (OpRes.gval (hL.at 27 rfl) (fun e0 => by have a7 := hL.at 3 rfl; subst e0; go_simp)) (
    ResL.cons (OpRes.gval (hL.at 27 rfl) (fun e0 => by have a40 := hL.at 28 rfl; have kk := get_b hW EC42.out; subst e0; go_simp)) (
    ResL.cons (OpRes.gval (hL.at 27 rfl) (fun e0 => by have a5 := hL.at 2 rfl; subst e0; go_simp)) (
    ResL.cons (OpRes.gval (hL.at 27 rfl) (fun e0 => by have a42 := hL.at 30 rfl; have kk := get_b hW EC33.out; subst e0; go_simp)) (
    ResL.cons (OpRes.gval (hL.at 27 rfl) (fun e0 => by have a4 := hL.at 1 rfl; subst e0; go_simp)) (
    ResL.cons (OpRes.gval (hL.at 27 rfl) (fun e0 => by have a44 := hL.at 32 rfl; have kk := get_b hW EC22.out; subst e0; go_simp)) (
    ResL.cons (OpRes.gcall 111 #[.bool tB, .int .i64 x.b, .int .i64 fn.vars] (hL.at 27 rfl) (fun e0 => by have a41 := hL.at 29 rfl; have a43 := hL.at 31 rfl; have a45 := hL.at 33 rfl; subst e0; go_simp) (fun e0 => (by rw [HM3.out]; exact fits_b _ _ _ _))) (
    ResL.cons (OpRes.gval (hL.at 27 rfl) (fun e0 => by have a46 := hL.at 34 rfl; subst e0; go_simp)) (
    ResL.cons (OpRes.val (by rw [Hbb3.out]; have a39 := hL.at 27 rfl; have a47 := hL.at 35 rfl; cases bb2 <;> go_simp)) (
    ResL.cons (OpRes.val (by have a48 := hL.at 36 rfl; go_simp)) (
    ResL.cons (OpRes.gval (hL.at 37 rfl) (fun e0 => by have a7 := hL.at 3 rfl; subst e0; go_simp)) (
    ResL.cons (OpRes.gval (hL.at 37 rfl) (fun e0 => by have a50 := hL.at 38 rfl; have kk := get_b hW EC46.out; subst e0; go_simp)) (
    ResL.cons (OpRes.gval (hL.at 37 rfl) (fun e0 => by have a5 := hL.at 2 rfl; subst e0; go_simp)) (
    ResL.cons (OpRes.gval (hL.at 37 rfl) (fun e0 => by have a52 := hL.at 40 rfl; have kk := get_b hW EC37.out; subst e0; go_simp)) (
    ResL.cons (OpRes.gval (hL.at 37 rfl) (fun e0 => by have a3 := hL.at 0 rfl; subst e0; go_simp)) (
    ResL.cons (OpRes.gval (hL.at 37 rfl) (fun e0 => by have a54 := hL.at 42 rfl; have kk := get_b hW EC11.out; subst e0; go_simp)) (
    ResL.cons (OpRes.gval (hL.at 37 rfl) (fun e0 => by have a55 := hL.at 43 rfl; subst e0; go_simp)) (
    ResL.cons (OpRes.gcall 111 #[.bool tG, .int .i64 x.f, .int .i64 (nl : Int)] (hL.at 37 rfl) (fun e0 => by have a51 := hL.at 39 rfl; have a53 := hL.at 41 rfl; have a56 := hL.at 44 rfl; subst e0; go_simp) (fun e0 => (by rw [HM4.out]; exact fits_b _ _ _ _))) (
    ResL.cons (OpRes.gval (hL.at 37 rfl) (fun e0 => by have a57 := hL.at 45 rfl; subst e0; go_simp)) (
    ResL.cons (OpRes.val (by rw [Hbb4.out]; have a49 := hL.at 37 rfl; have a58 := hL.at 46 rfl; cases bb3 <;> go_simp)) (
    ResL.cons (OpRes.val (by have a59 := hL.at 47 rfl; go_simp)) (
    ResL.cons (OpRes.gval (hL.at 48 rfl) (fun e0 => by have a7 := hL.at 3 rfl; subst e0; go_simp)) (
    ResL.cons (OpRes.gval (hL.at 48 rfl) (fun e0 => by have a61 := hL.at 49 rfl; have kk := get_b hW EC47.out; subst e0; go_simp)) (
    ResL.cons (OpRes.gval (hL.at 48 rfl) (fun e0 => by have a5 := hL.at 2 rfl; subst e0; go_simp)) (
    ResL.cons (OpRes.gval (hL.at 48 rfl) (fun e0 => by have a63 := hL.at 51 rfl; have kk := get_b hW EC38.out; subst e0; go_simp)) (
    ResL.cons (OpRes.gval (hL.at 48 rfl) (fun e0 => by have a3 := hL.at 0 rfl; subst e0; go_simp)) (
    ResL.cons (OpRes.gval (hL.at 48 rfl) (fun e0 => by have a65 := hL.at 53 rfl; have kk := get_b hW EC10.out; subst e0; go_simp)) (
    ResL.cons (OpRes.gval (hL.at 48 rfl) (fun e0 => by have a66 := hL.at 54 rfl; subst e0; go_simp)) (
    ResL.cons (OpRes.gcall 111 #[.bool tR, .int .i64 x.arr, .int .i64 (na : Int)] (hL.at 48 rfl) (fun e0 => by have a62 := hL.at 50 rfl; have a64 := hL.at 52 rfl; have a67 := hL.at 55 rfl; subst e0; go_simp) (fun e0 => (by rw [HM5.out]; exact fits_b _ _ _ _))) (
    ResL.cons (OpRes.gval (hL.at 48 rfl) (fun e0 => by have a68 := hL.at 56 rfl; subst e0; go_simp)) (
    ResL.cons (OpRes.val (by rw [Hbb5.out]; have a60 := hL.at 48 rfl; have a69 := hL.at 57 rfl; cases bb4 <;> go_simp)) (
    ResL.cons (OpRes.val (by have a70 := hL.at 58 rfl; go_simp)) (
    ResL.cons (OpRes.gval (hL.at 59 rfl) (fun e0 => by have a7 := hL.at 3 rfl; subst e0; go_simp)) (
    ResL.cons (OpRes.gval (hL.at 59 rfl) (fun e0 => by have a72 := hL.at 60 rfl; have kk := get_b hW EC48.out; subst e0; go_simp)) (
    ResL.cons (OpRes.gval (hL.at 59 rfl) (fun e0 => by have a5 := hL.at 2 rfl; subst e0; go_simp)) (
    ResL.cons (OpRes.gval (hL.at 59 rfl) (fun e0 => by have a74 := hL.at 62 rfl; have kk := get_b hW EC39.out; subst e0; go_simp)) (
    ResL.cons (OpRes.gval (hL.at 59 rfl) (fun e0 => by have a4 := hL.at 1 rfl; subst e0; go_simp)) (
    ResL.cons (OpRes.gval (hL.at 59 rfl) (fun e0 => by have a76 := hL.at 64 rfl; have kk := get_b hW EC23.out; subst e0; go_simp)) (
    ResL.cons (OpRes.gval (hL.at 59 rfl) (fun e0 => by have a77 := hL.at 65 rfl; subst e0; go_simp)) (
    ResL.cons (OpRes.gcall 111 #[.bool tT, .int .i64 x.to, .int .i64 (nc : Int)] (hL.at 59 rfl) (fun e0 => by have a73 := hL.at 61 rfl; have a75 := hL.at 63 rfl; have a78 := hL.at 66 rfl; subst e0; go_simp) (fun e0 => (by rw [HM6.out]; exact fits_b _ _ _ _))) (
    ResL.cons (OpRes.gval (hL.at 59 rfl) (fun e0 => by have a79 := hL.at 67 rfl; subst e0; go_simp)) (
    ResL.cons (OpRes.val (by rw [Hbb6.out]; have a71 := hL.at 59 rfl; have a80 := hL.at 68 rfl; cases bb5 <;> go_simp)) (
    ResL.nil)))))))))))))))))))))))))))))))))))))))))))))))))))))))))))))))))
  intro W hW
  clear hL
  obtain ⟨gg, hFF⟩ : ∃ gg : Nat → Value, FF = ⟨List.toArray (gg 0 :: gg 1 :: gg 2 :: .pointer (some ⟨w.heap.size, 0, none⟩) :: .pointer (some ⟨(w.heap.size + 1), 0, none⟩) :: .pointer (some ⟨(w.heap.size + 1 + 1), 0, none⟩) :: .bool false :: .pointer (some ⟨w1.heap.size, 0, none⟩) :: .bool tI :: undef :: undef :: gg 11 :: gg 12 :: gg 13 :: gg 14 :: gg 15 :: gg 16 :: gg 17 :: gg 18 :: gg 19 :: gg 20 :: gg 21 :: gg 22 :: gg 23 :: gg 24 :: gg 25 :: gg 26 :: gg 27 :: gg 28 :: gg 29 :: gg 30 :: gg 31 :: gg 32 :: gg 33 :: gg 34 :: gg 35 :: gg 36 :: gg 37 :: gg 38 :: gg 39 :: gg 40 :: gg 41 :: gg 42 :: gg 43 :: gg 44 :: gg 45 :: gg 46 :: gg 47 :: gg 48 :: gg 49 :: gg 50 :: gg 51 :: gg 52 :: gg 53 :: gg 54 :: gg 55 :: gg 56 :: gg 57 :: gg 58 :: gg 59 :: gg 60 :: gg 61 :: gg 62 :: gg 63 :: gg 64 :: gg 65 :: gg 66 :: gg 67 :: gg 68 :: gg 69 :: gg 70 :: gg 71 :: gg 72 :: gg 73 :: gg 74 :: gg 75 :: gg 76 :: gg 77 :: gg 78 :: gg 79 :: gg 80 :: .bool bb6 :: gg 82 :: gg 83 :: gg 84 :: gg 85 :: gg 86 :: gg 87 :: gg 88 :: gg 89 :: gg 90 :: gg 91 :: gg 92 :: gg 93 :: gg 94 :: gg 95 :: gg 96 :: gg 97 :: gg 98 :: gg 99 :: gg 100 :: gg 101 :: gg 102 :: gg 103 :: gg 104 :: gg 105 :: gg 106 :: gg 107 :: gg 108 :: gg 109 :: gg 110 :: gg 111 :: gg 112 :: gg 113 :: gg 114 :: gg 115 :: gg 116 :: gg 117 :: gg 118 :: gg 119 :: gg 120 :: gg 121 :: gg 122 :: gg 123 :: gg 124 :: gg 125 :: gg 126 :: gg 127 :: gg 128 :: gg 129 :: gg 130 :: gg 131 :: []), []⟩ := ⟨fun k => FF.tmps.getD k undef, by rw [HF.out]; kernel_rfl⟩
  clear HF
  subst hFF
  refine wpList_nil ?_
  cases hbb : bb6 with
  | true =>
    have hr : res = false := by
      have e1 := HR.out; have e2 := Hbb0.out; have e3 := Hbb1.out; have e4 := Hbb2.out; have e5 := Hbb3.out; have e6 := Hbb4.out; have e7 := Hbb5.out; have e8 := Hbb6.out
      rw [hbb] at e8
      subst e7 e6 e5 e4 e3 e2
      rw [e1]
      revert e8
      cases tI <;> cases m1 <;> cases m2 <;> cases m3 <;> cases m4 <;> cases m5 <;> cases m6 <;> simp
    have HRR := Lib.hid hr
    have HBW := Lib.hid (HB2.out.trans (hW.mono (by have := HB2.out.size; omega)))
    clear hr hbb hW
    go_wp2_with fail
    go_ret
    exact ⟨ret_b HRR.out.symm, HBW.out⟩
  | false =>
    have hall : tI = true ∧ m1 = true ∧ m2 = true ∧ m3 = true ∧ m4 = true ∧ m5 = true ∧ m6 = true := by
      have e2 := Hbb0.out; have e3 := Hbb1.out; have e4 := Hbb2.out; have e5 := Hbb3.out; have e6 := Hbb4.out; have e7 := Hbb5.out; have e8 := Hbb6.out
      rw [hbb] at e8
      subst e7 e6 e5 e4 e3 e2
      revert e8
      cases tI <;> cases m1 <;> cases m2 <;> cases m3 <;> cases m4 <;> cases m5 <;> cases m6 <;> simp
    obtain ⟨h0, h1, h2, h3, h4, h5, h6⟩ := hall
    have hr := HR.out
    rw [h0, h1, h2, h3, h4, h5, h6] at hr
    simp only [Bool.true_and] at hr
    have h4' : fitsW tG x.f nl = true := by rw [← HM4.out]; exact h4
    subst h0 h1 h2 h3 h5 h6
    clear Hbb0 Hbb1 Hbb2 Hbb3 Hbb4 Hbb5 Hbb6 HR HM1 HM2 HM3 HM4 HM5 HM6 h4 hbb
    obtain ⟨many, hmany⟩ : ∃ m, m = manyW p x := ⟨_, rfl⟩
    obtain ⟨wr, hwr⟩ : ∃ m, m = x.args.any (fun v => !decide (0 ≤ v ∧ v < fn.vars)) := ⟨_, rfl⟩
    obtain ⟨mb, hmb⟩ : ∃ m, m = decide (x.bin ∈ binsW) := ⟨_, rfl⟩
    have hr2 : res = ((tN || (x.n == 0)) && (if tO then mb else ((x.bin : Int) == 0)) && ((ng : Int) == many) && !wr) := by
      rw [hr, ← hmany, hwr, ← hmb, show decide (x.n = 0) = (x.n == 0) from (Bool.beq_eq_decide_eq _ _).symm, show decide ((ng : Int) = many) = ((ng : Int) == many) from (Bool.beq_eq_decide_eq _ _).symm]
      congr 1
      · congr 2
        cases tO
        · simp only [Bool.false_eq_true, if_false]
          rw [Bool.beq_eq_decide_eq]
          exact decide_eq_decide.2 (by omega)
        · rfl
      · rw [List.not_any_eq_all_not]; simp
    have HR := Lib.hid hr2; have H4 := Lib.hid h4'; have HMB := Lib.hid hmb; have HWR := Lib.hid hwr; have HMANY := Lib.hid hmany
    clear hr hr2 h4' hmb hwr hmany
    have HBW := Lib.hid (HB2.out.trans (hW.mono (by have := HB2.out.size; omega)))
    have HXW := Lib.hid (show IntsV W (.slice X ng cx) x.args from ⟨X, cx, by rw [HNG.out], by rw [← HNG.out]; exact HCX.out, HXR.out.imp id fun ⟨b, o, e, k⟩ => ⟨b, o, e, fun i y hy => get_b HBW.out (k i y hy)⟩⟩)
    have HFW := Lib.hid (show l = [] ∨ ∃ b o, F = some ⟨b, o, none⟩ ∧ ∀ i x, l[i]? = some x → fnAt W b (o + i * 4) x from HFR.out.imp id fun ⟨b, o, e, k⟩ => ⟨b, o, e, fun i y hy => (k i y hy).below HBW.out⟩)
    have Q10 := get_b hW EC10.out
    have Q11 := get_b hW EC11.out
    have Q22 := get_b hW EC22.out
    have Q23 := get_b hW EC23.out
    have Q30 := get_b hW EC30.out
    have Q31 := get_b hW EC31.out
    have Q32 := get_b hW EC32.out
    have Q33 := get_b hW EC33.out
    have Q34 := get_b hW EC34.out
    have Q35 := get_b hW EC35.out
    have Q36 := get_b hW EC36.out
    have Q37 := get_b hW EC37.out
    have Q38 := get_b hW EC38.out
    have Q39 := get_b hW EC39.out
    have Q40 := get_b hW EC40.out
    have Q41 := get_b hW EC41.out
    have Q42 := get_b hW EC42.out
    have Q43 := get_b hW EC43.out
    have Q44 := get_b hW EC44.out
    have Q45 := get_b hW EC45.out
    have Q46 := get_b hW EC46.out
    have Q47 := get_b hW EC47.out
    have Q48 := get_b hW EC48.out
    clear hW HB2 EC10 EC11 EC22 EC23 EC30 EC31 EC32 EC33 EC34 EC35 EC36 EC37 EC38 EC39 EC40 EC41 EC42 EC43 EC44 EC45 EC46 EC47 EC48
    cases tG with
    | false =>
      have hm0 : many = 0 := by rw [HMANY.out, manyW, HG.out]; rfl
      go_upto_region 8 with fail
      subst hm0
      cases hc : (tN || (x.n == 0)) with
      | false =>
        refine wp_region_vals [(none, .pointer (some ⟨w1.heap.size, 3, none⟩)), (none, .bool tN), (none, .bool tN), (some (94, false), gd tN false (.pointer (some ⟨(w.heap.size + 1 + 1), 4, none⟩))), (some (94, false), gd tN false (.int .i64 x.n)), (some (94, false), gd tN false (.bool (x.n == 0))), (none, .bool false), (none, .bool false), (some (99, true), undef), (some (99, true), undef), (some (99, true), undef), (some (102, true), undef), (some (102, true), undef), (some (102, true), undef), (some (99, true), undef), (some (99, true), undef), (some (107, false), undef), (some (107, false), undef), (some (107, false), undef), (some (107, false), undef), (some (111, true), undef), (some (111, true), undef), (some (111, true), undef), (some (107, false), undef), (some (99, true), undef), (none, .bool false), (none, .bool false), (some (118, true), undef), (some (118, true), undef), (some (118, true), undef), (some (118, true), undef), (some (118, true), undef), (none, .bool false), (none, .bool false), (some (125, true), undef), (some (125, true), undef), (some (125, true), undef), (some (125, true), undef), (some (125, true), undef), (none, .bool false), (none, .bool false)] mixed (by kernel_rfl) ?_
        intro FF hF
        have hL : HasL FF [(5, .pointer (some ⟨(w.heap.size + 1 + 1), 0, none⟩)), (7, .pointer (some ⟨w1.heap.size, 0, none⟩)), (92, .pointer (some ⟨w1.heap.size, 3, none⟩)), (93, .bool tN), (94, .bool tN), (95, gd tN false (.pointer (some ⟨(w.heap.size + 1 + 1), 4, none⟩))), (96, gd tN false (.int .i64 x.n)), (97, gd tN false (.bool (x.n == 0))), (98, .bool false), (99, .bool false), (100, undef), (101, undef), (102, undef), (103, undef), (104, undef), (105, undef), (106, undef), (107, undef), (108, undef), (109, undef), (110, undef), (111, undef), (112, undef), (113, undef), (114, undef), (115, undef), (116, undef), (117, .bool false), (118, .bool false), (119, undef), (120, undef), (121, undef), (122, undef), (123, undef), (124, .bool false), (125, .bool false), (126, undef), (127, undef), (128, undef), (129, undef), (130, undef), (131, .bool false), (6, .bool false)] := by unfold HasL; rw [hF]; kernel_rfl
        have HF := Lib.hid hF; clear hF
        refine ⟨?_, ?_⟩
        · intro V hV
          repeat clear ‹∀ (a : Act) (w : World), Code.wp Tryz.prog _ _ a w → _›
          have gff := gd_ff
          have gtt := gd_tt
          exact
          ResL.cons (OpRes.val (by have a7 := hL.at 1 rfl; go_simp)) (
          ResL.cons (OpRes.val (by have a92 := hL.at 2 rfl; have kk := get_b hV Q43; go_simp)) (
          ResL.cons (OpRes.val (by have a93 := hL.at 3 rfl; go_simp)) (
          ResL.cons (OpRes.gval (hL.at 4 rfl) (fun e0 => by have a5 := hL.at 0 rfl; subst e0; go_simp)) (
          ResL.cons (OpRes.gval (hL.at 4 rfl) (fun e0 => by have a95 := hL.at 5 rfl; have kk := get_b hV Q34; subst e0; go_simp)) (
          ResL.cons (OpRes.gval (hL.at 4 rfl) (fun e0 => by have a96 := hL.at 6 rfl; subst e0; go_simp)) (
          ResL.cons (OpRes.to (v := .bool (tN || (x.n == 0))) (by rw [hc]) (OpRes.val (by clear hc; have a94 := hL.at 4 rfl; have a97 := hL.at 7 rfl; cases tN <;> go_simp))) (
          ResL.cons (OpRes.val (by have a98 := hL.at 8 rfl; go_simp)) (
          ResL.cons (OpRes.skip (hL.at 9 rfl) (rfl)) (
          ResL.cons (OpRes.skip (hL.at 9 rfl) (rfl)) (
          ResL.cons (OpRes.skip (hL.at 9 rfl) (rfl)) (
          ResL.cons (OpRes.skip (hL.at 12 rfl) (rfl)) (
          ResL.cons (OpRes.skip (hL.at 12 rfl) (rfl)) (
          ResL.cons (OpRes.skip (hL.at 12 rfl) (rfl)) (
          ResL.cons (OpRes.skip (hL.at 9 rfl) (rfl)) (
          ResL.cons (OpRes.skip (hL.at 9 rfl) (rfl)) (
          ResL.cons (OpRes.skip (hL.at 17 rfl) (rfl)) (
          ResL.cons (OpRes.skip (hL.at 17 rfl) (rfl)) (
          ResL.cons (OpRes.skip (hL.at 17 rfl) (rfl)) (
          ResL.cons (OpRes.skip (hL.at 17 rfl) (rfl)) (
          ResL.cons (OpRes.skip (hL.at 21 rfl) (rfl)) (
          ResL.cons (OpRes.skip (hL.at 21 rfl) (rfl)) (
          ResL.cons (OpRes.skip (hL.at 21 rfl) (rfl)) (
          ResL.cons (OpRes.skip (hL.at 17 rfl) (rfl)) (
          ResL.cons (OpRes.skip (hL.at 9 rfl) (rfl)) (
          ResL.cons (OpRes.val (by have a99 := hL.at 9 rfl; have a116 := hL.at 26 rfl; go_simp)) (
          ResL.cons (OpRes.val (by have a117 := hL.at 27 rfl; go_simp)) (
          ResL.cons (OpRes.skip (hL.at 28 rfl) (rfl)) (
          ResL.cons (OpRes.skip (hL.at 28 rfl) (rfl)) (
          ResL.cons (OpRes.skip (hL.at 28 rfl) (rfl)) (
          ResL.cons (OpRes.skip (hL.at 28 rfl) (rfl)) (
          ResL.cons (OpRes.skip (hL.at 28 rfl) (rfl)) (
          ResL.cons (OpRes.val (by have a118 := hL.at 28 rfl; have a123 := hL.at 33 rfl; go_simp)) (
          ResL.cons (OpRes.val (by have a124 := hL.at 34 rfl; go_simp)) (
          ResL.cons (OpRes.skip (hL.at 35 rfl) (rfl)) (
          ResL.cons (OpRes.skip (hL.at 35 rfl) (rfl)) (
          ResL.cons (OpRes.skip (hL.at 35 rfl) (rfl)) (
          ResL.cons (OpRes.skip (hL.at 35 rfl) (rfl)) (
          ResL.cons (OpRes.skip (hL.at 35 rfl) (rfl)) (
          ResL.cons (OpRes.val (by have a125 := hL.at 35 rfl; have a130 := hL.at 40 rfl; go_simp)) (
          ResL.cons (OpRes.val (by have a131 := hL.at 41 rfl; go_simp)) (
          ResL.nil)))))))))))))))))))))))))))))))))))))))))
        intro V hV
        clear hL
        obtain ⟨gg, hFF⟩ : ∃ gg : Nat → Value, FF = ⟨List.toArray (gg 0 :: gg 1 :: gg 2 :: gg 3 :: gg 4 :: gg 5 :: .bool false :: gg 7 :: gg 8 :: gg 9 :: gg 10 :: gg 11 :: gg 12 :: gg 13 :: gg 14 :: gg 15 :: gg 16 :: gg 17 :: gg 18 :: gg 19 :: gg 20 :: gg 21 :: gg 22 :: gg 23 :: gg 24 :: gg 25 :: gg 26 :: gg 27 :: gg 28 :: gg 29 :: gg 30 :: gg 31 :: gg 32 :: gg 33 :: gg 34 :: gg 35 :: gg 36 :: gg 37 :: gg 38 :: gg 39 :: gg 40 :: gg 41 :: gg 42 :: gg 43 :: gg 44 :: gg 45 :: gg 46 :: gg 47 :: gg 48 :: gg 49 :: gg 50 :: gg 51 :: gg 52 :: gg 53 :: gg 54 :: gg 55 :: gg 56 :: gg 57 :: gg 58 :: gg 59 :: gg 60 :: gg 61 :: gg 62 :: gg 63 :: gg 64 :: gg 65 :: gg 66 :: gg 67 :: gg 68 :: gg 69 :: gg 70 :: gg 71 :: gg 72 :: gg 73 :: gg 74 :: gg 75 :: gg 76 :: gg 77 :: gg 78 :: gg 79 :: gg 80 :: gg 81 :: gg 82 :: gg 83 :: gg 84 :: gg 85 :: gg 86 :: gg 87 :: gg 88 :: gg 89 :: gg 90 :: gg 91 :: gg 92 :: gg 93 :: gg 94 :: gg 95 :: gg 96 :: gg 97 :: gg 98 :: gg 99 :: gg 100 :: gg 101 :: gg 102 :: gg 103 :: gg 104 :: gg 105 :: gg 106 :: gg 107 :: gg 108 :: gg 109 :: gg 110 :: gg 111 :: gg 112 :: gg 113 :: gg 114 :: gg 115 :: gg 116 :: gg 117 :: gg 118 :: gg 119 :: gg 120 :: gg 121 :: gg 122 :: gg 123 :: gg 124 :: gg 125 :: gg 126 :: gg 127 :: gg 128 :: gg 129 :: gg 130 :: gg 131 :: []), []⟩ := ⟨fun k => FF.tmps.getD k undef, by rw [HF.out]; kernel_rfl⟩
        clear HF
        subst hFF
        refine wpList_nil ?_
        have HVB := Lib.hid (HBW.out.trans (hV.mono HBW.out.size)); clear hV
        have HEQ : Hid (false = res) := Lib.hid (by have := HR.out; rw [this, hc]; simp)
        clear hc
        go_wp2_with fail
        go_ret
        exact ⟨ret_b HEQ.out, HVB.out⟩
      | true =>
        cases tO with
        | false =>
          obtain ⟨dd0, hdd0⟩ : ∃ b : Bool, b = ((x.bin : Int) == 0) := ⟨_, rfl⟩
          have Hdd0 := Lib.hid hdd0; clear hdd0
          obtain ⟨dd1, hdd1⟩ : ∃ b : Bool, b = (dd0 && ((ng : Int) == 0)) := ⟨_, rfl⟩
          have Hdd1 := Lib.hid hdd1; clear hdd1
          obtain ⟨dd2, hdd2⟩ : ∃ b : Bool, b = (dd1 && (!wr)) := ⟨_, rfl⟩
          have Hdd2 := Lib.hid hdd2; clear hdd2
          refine wp_region_vals [(none, .pointer (some ⟨w1.heap.size, 3, none⟩)), (none, .bool tN), (none, .bool tN), (some (94, false), gd tN false (.pointer (some ⟨(w.heap.size + 1 + 1), 4, none⟩))), (some (94, false), gd tN false (.int .i64 x.n)), (some (94, false), gd tN false (.bool (x.n == 0))), (none, .bool true), (none, .bool true), (some (99, true), .pointer (some ⟨w1.heap.size, 4, none⟩)), (some (99, true), .bool false), (some (99, true), .bool false), (some (102, true), undef), (some (102, true), undef), (some (102, true), undef), (some (99, true), .bool false), (some (99, true), .bool false), (some (107, false), .pointer (some ⟨w1.heap.size, 4, none⟩)), (some (107, false), .bool false), (some (107, false), .bool true), (some (107, false), .bool true), (some (111, true), .pointer (some ⟨(w.heap.size + 1 + 1), 5, none⟩)), (some (111, true), .int .u8 (x.bin : Int)), (some (111, true), .bool ((x.bin : Int) == 0)), (some (107, false), .bool ((x.bin : Int) == 0)), (some (99, true), .bool ((x.bin : Int) == 0)), (none, .bool ((x.bin : Int) == 0)), (none, .bool dd0), (some (118, true), gd dd0 true (.pointer (some ⟨(w.heap.size + 1 + 1), 6, none⟩))), (some (118, true), gd dd0 true (.slice X ng cx)), (some (118, true), gd dd0 true (.int .i64 (ng : Int))), (some (118, true), gd dd0 true (.int .i64 0)), (some (118, true), gd dd0 true (.bool ((ng : Int) == 0))), (none, .bool dd1), (none, .bool dd1), (some (125, true), gd dd1 true (.pointer (some ⟨(w.heap.size + 1 + 1), 6, none⟩))), (some (125, true), gd dd1 true (.slice X ng cx)), (some (125, true), gd dd1 true (.func (.func 112) #[] #[.pointer (some ⟨w.heap.size + 1, 0, none⟩)])), (some (125, true), gd dd1 true (.bool wr)), (some (125, true), gd dd1 true (.bool (!wr))), (none, .bool dd2), (none, .bool dd2)] mixed (by kernel_rfl) ?_
          intro FF hF
          have hL : HasL FF [(5, .pointer (some ⟨(w.heap.size + 1 + 1), 0, none⟩)), (7, .pointer (some ⟨w1.heap.size, 0, none⟩)), (9, .int .i64 0), (10, .func (.func 112) #[] #[.pointer (some ⟨w.heap.size + 1, 0, none⟩)]), (92, .pointer (some ⟨w1.heap.size, 3, none⟩)), (93, .bool tN), (94, .bool tN), (95, gd tN false (.pointer (some ⟨(w.heap.size + 1 + 1), 4, none⟩))), (96, gd tN false (.int .i64 x.n)), (97, gd tN false (.bool (x.n == 0))), (98, .bool true), (99, .bool true), (100, .pointer (some ⟨w1.heap.size, 4, none⟩)), (101, .bool false), (102, .bool false), (103, undef), (104, undef), (105, undef), (106, .bool false), (107, .bool false), (108, .pointer (some ⟨w1.heap.size, 4, none⟩)), (109, .bool false), (110, .bool true), (111, .bool true), (112, .pointer (some ⟨(w.heap.size + 1 + 1), 5, none⟩)), (113, .int .u8 (x.bin : Int)), (114, .bool ((x.bin : Int) == 0)), (115, .bool ((x.bin : Int) == 0)), (116, .bool ((x.bin : Int) == 0)), (117, .bool ((x.bin : Int) == 0)), (118, .bool dd0), (119, gd dd0 true (.pointer (some ⟨(w.heap.size + 1 + 1), 6, none⟩))), (120, gd dd0 true (.slice X ng cx)), (121, gd dd0 true (.int .i64 (ng : Int))), (122, gd dd0 true (.int .i64 0)), (123, gd dd0 true (.bool ((ng : Int) == 0))), (124, .bool dd1), (125, .bool dd1), (126, gd dd1 true (.pointer (some ⟨(w.heap.size + 1 + 1), 6, none⟩))), (127, gd dd1 true (.slice X ng cx)), (128, gd dd1 true (.func (.func 112) #[] #[.pointer (some ⟨w.heap.size + 1, 0, none⟩)])), (129, gd dd1 true (.bool wr)), (130, gd dd1 true (.bool (!wr))), (131, .bool dd2), (6, .bool dd2)] := by unfold HasL; rw [hF]; kernel_rfl
          have HF := Lib.hid hF; clear hF
          refine ⟨?_, ?_⟩
          · intro V hV
            repeat clear ‹∀ (a : Act) (w : World), Code.wp Tryz.prog _ _ a w → _›
            have gff := gd_ff
            have gtt := gd_tt
            exact
            ResL.cons (OpRes.val (by have a7 := hL.at 1 rfl; go_simp)) (
            ResL.cons (OpRes.val (by have a92 := hL.at 4 rfl; have kk := get_b hV Q43; go_simp)) (
            ResL.cons (OpRes.val (by have a93 := hL.at 5 rfl; go_simp)) (
            ResL.cons (OpRes.gval (hL.at 6 rfl) (fun e0 => by have a5 := hL.at 0 rfl; subst e0; go_simp)) (
            ResL.cons (OpRes.gval (hL.at 6 rfl) (fun e0 => by have a95 := hL.at 7 rfl; have kk := get_b hV Q34; subst e0; go_simp)) (
            ResL.cons (OpRes.gval (hL.at 6 rfl) (fun e0 => by have a96 := hL.at 8 rfl; subst e0; go_simp)) (
            ResL.cons (OpRes.to (v := .bool (tN || (x.n == 0))) (by rw [hc]) (OpRes.val (by clear hc; have a94 := hL.at 6 rfl; have a97 := hL.at 9 rfl; cases tN <;> go_simp))) (
            ResL.cons (OpRes.val (by have a98 := hL.at 10 rfl; go_simp)) (
            ResL.cons (OpRes.goval (hL.at 11 rfl) (by have a7 := hL.at 1 rfl; go_simp)) (
            ResL.cons (OpRes.goval (hL.at 11 rfl) (by have a100 := hL.at 12 rfl; have kk := get_b hV Q44; go_simp)) (
            ResL.cons (OpRes.goval (hL.at 11 rfl) (by have a101 := hL.at 13 rfl; go_simp)) (
            ResL.cons (OpRes.skip (hL.at 14 rfl) (rfl)) (
            ResL.cons (OpRes.skip (hL.at 14 rfl) (rfl)) (
            ResL.cons (OpRes.skip (hL.at 14 rfl) (rfl)) (
            ResL.cons (OpRes.goval (hL.at 11 rfl) (by have a102 := hL.at 14 rfl; have a105 := hL.at 17 rfl; go_simp)) (
            ResL.cons (OpRes.goval (hL.at 11 rfl) (by have a106 := hL.at 18 rfl; go_simp)) (
            ResL.cons (OpRes.goval (hL.at 19 rfl) (by have a7 := hL.at 1 rfl; go_simp)) (
            ResL.cons (OpRes.goval (hL.at 19 rfl) (by have a108 := hL.at 20 rfl; have kk := get_b hV Q44; go_simp)) (
            ResL.cons (OpRes.goval (hL.at 19 rfl) (by have a109 := hL.at 21 rfl; go_simp)) (
            ResL.cons (OpRes.goval (hL.at 19 rfl) (by have a110 := hL.at 22 rfl; go_simp)) (
            ResL.cons (OpRes.goval (hL.at 23 rfl) (by have a5 := hL.at 0 rfl; go_simp)) (
            ResL.cons (OpRes.goval (hL.at 23 rfl) (by have a112 := hL.at 24 rfl; have kk := get_b hV Q35; go_simp)) (
            ResL.cons (OpRes.goval (hL.at 23 rfl) (by have a113 := hL.at 25 rfl; go_simp)) (
            ResL.cons (OpRes.goval (hL.at 19 rfl) (by have a111 := hL.at 23 rfl; have a114 := hL.at 26 rfl; go_simp)) (
            ResL.cons (OpRes.goval (hL.at 11 rfl) (by have a107 := hL.at 19 rfl; have a115 := hL.at 27 rfl; go_simp)) (
            ResL.cons (OpRes.val (by have a99 := hL.at 11 rfl; have a116 := hL.at 28 rfl; go_simp)) (
            ResL.cons (OpRes.val (by rw [Hdd0.out]; have a117 := hL.at 29 rfl; go_simp)) (
            ResL.cons (OpRes.gval (hL.at 30 rfl) (fun e0 => by have a5 := hL.at 0 rfl; subst e0; go_simp)) (
            ResL.cons (OpRes.gval (hL.at 30 rfl) (fun e0 => by have a119 := hL.at 31 rfl; have kk := get_b hV Q36; subst e0; go_simp)) (
            ResL.cons (OpRes.gval (hL.at 30 rfl) (fun e0 => by have a120 := hL.at 32 rfl; subst e0; go_simp)) (
            ResL.cons (OpRes.gval (hL.at 30 rfl) (fun e0 => by have a9 := hL.at 2 rfl; subst e0; go_simp)) (
            ResL.cons (OpRes.gval (hL.at 30 rfl) (fun e0 => by have a121 := hL.at 33 rfl; have a122 := hL.at 34 rfl; subst e0; go_simp)) (
            ResL.cons (OpRes.val (by rw [Hdd1.out]; have a118 := hL.at 30 rfl; have a123 := hL.at 35 rfl; cases dd0 <;> go_simp)) (
            ResL.cons (OpRes.val (by have a124 := hL.at 36 rfl; go_simp)) (
            ResL.cons (OpRes.gval (hL.at 37 rfl) (fun e0 => by have a5 := hL.at 0 rfl; subst e0; go_simp)) (
            ResL.cons (OpRes.gval (hL.at 37 rfl) (fun e0 => by have a126 := hL.at 38 rfl; have kk := get_b hV Q36; subst e0; go_simp)) (
            ResL.cons (OpRes.gval (hL.at 37 rfl) (fun e0 => by have a10 := hL.at 3 rfl; subst e0; go_simp)) (
            ResL.cons (OpRes.gcall 42 #[.slice X ng cx, .func (.func 112) #[] #[.pointer (some ⟨w.heap.size + 1, 0, none⟩)]] (hL.at 37 rfl) (fun e0 => by have a127 := hL.at 39 rfl; have a128 := hL.at 40 rfl; subst e0; go_simp) (fun e0 => (by rw [HWR.out]; exact con_intsC _ x.args 112 _ _ (fun v => !decide (0 ≤ v ∧ v < fn.vars)) (HXW.out.below hV) HAL.out (fun a U => enter112 a _ U) (fun y _ U hU => wrong_b y fn.vars (w.heap.size + 1) U (get_b (hV.trans (hU.mono hV.size)) Q22))))) (
            ResL.cons (OpRes.gval (hL.at 37 rfl) (fun e0 => by have a129 := hL.at 41 rfl; subst e0; go_simp)) (
            ResL.cons (OpRes.val (by rw [Hdd2.out]; have a125 := hL.at 37 rfl; have a130 := hL.at 42 rfl; cases dd1 <;> go_simp)) (
            ResL.cons (OpRes.val (by have a131 := hL.at 43 rfl; go_simp)) (
            ResL.nil)))))))))))))))))))))))))))))))))))))))))
          intro V hV
          clear hL
          obtain ⟨gg, hFF⟩ : ∃ gg : Nat → Value, FF = ⟨List.toArray (gg 0 :: gg 1 :: gg 2 :: gg 3 :: gg 4 :: gg 5 :: .bool dd2 :: gg 7 :: gg 8 :: gg 9 :: gg 10 :: gg 11 :: gg 12 :: gg 13 :: gg 14 :: gg 15 :: gg 16 :: gg 17 :: gg 18 :: gg 19 :: gg 20 :: gg 21 :: gg 22 :: gg 23 :: gg 24 :: gg 25 :: gg 26 :: gg 27 :: gg 28 :: gg 29 :: gg 30 :: gg 31 :: gg 32 :: gg 33 :: gg 34 :: gg 35 :: gg 36 :: gg 37 :: gg 38 :: gg 39 :: gg 40 :: gg 41 :: gg 42 :: gg 43 :: gg 44 :: gg 45 :: gg 46 :: gg 47 :: gg 48 :: gg 49 :: gg 50 :: gg 51 :: gg 52 :: gg 53 :: gg 54 :: gg 55 :: gg 56 :: gg 57 :: gg 58 :: gg 59 :: gg 60 :: gg 61 :: gg 62 :: gg 63 :: gg 64 :: gg 65 :: gg 66 :: gg 67 :: gg 68 :: gg 69 :: gg 70 :: gg 71 :: gg 72 :: gg 73 :: gg 74 :: gg 75 :: gg 76 :: gg 77 :: gg 78 :: gg 79 :: gg 80 :: gg 81 :: gg 82 :: gg 83 :: gg 84 :: gg 85 :: gg 86 :: gg 87 :: gg 88 :: gg 89 :: gg 90 :: gg 91 :: gg 92 :: gg 93 :: gg 94 :: gg 95 :: gg 96 :: gg 97 :: gg 98 :: gg 99 :: gg 100 :: gg 101 :: gg 102 :: gg 103 :: gg 104 :: gg 105 :: gg 106 :: gg 107 :: gg 108 :: gg 109 :: gg 110 :: gg 111 :: gg 112 :: gg 113 :: gg 114 :: gg 115 :: gg 116 :: gg 117 :: gg 118 :: gg 119 :: gg 120 :: gg 121 :: gg 122 :: gg 123 :: gg 124 :: gg 125 :: gg 126 :: gg 127 :: gg 128 :: gg 129 :: gg 130 :: gg 131 :: []), []⟩ := ⟨fun k => FF.tmps.getD k undef, by rw [HF.out]; kernel_rfl⟩
          clear HF
          subst hFF
          refine wpList_nil ?_
          have HVB := Lib.hid (HBW.out.trans (hV.mono HBW.out.size)); clear hV
          have HEQ : Hid (dd2 = res) := Lib.hid (by have := HR.out; rw [this, hc]; have qdd0 := Hdd0.out; have qdd1 := Hdd1.out; have qdd2 := Hdd2.out; subst qdd2 qdd1 qdd0; simp)
          clear hc
          go_wp2_with fail
          go_ret
          exact ⟨ret_b HEQ.out, HVB.out⟩
        | true =>
          obtain ⟨dd0, hdd0⟩ : ∃ b : Bool, b = (mb || false) := ⟨_, rfl⟩
          have Hdd0 := Lib.hid hdd0; clear hdd0
          obtain ⟨dd1, hdd1⟩ : ∃ b : Bool, b = (dd0 && ((ng : Int) == 0)) := ⟨_, rfl⟩
          have Hdd1 := Lib.hid hdd1; clear hdd1
          obtain ⟨dd2, hdd2⟩ : ∃ b : Bool, b = (dd1 && (!wr)) := ⟨_, rfl⟩
          have Hdd2 := Lib.hid hdd2; clear hdd2
          refine wp_region_vals [(none, .pointer (some ⟨w1.heap.size, 3, none⟩)), (none, .bool tN), (none, .bool tN), (some (94, false), gd tN false (.pointer (some ⟨(w.heap.size + 1 + 1), 4, none⟩))), (some (94, false), gd tN false (.int .i64 x.n)), (some (94, false), gd tN false (.bool (x.n == 0))), (none, .bool true), (none, .bool true), (some (99, true), .pointer (some ⟨w1.heap.size, 4, none⟩)), (some (99, true), .bool true), (some (99, true), .bool true), (some (102, true), .pointer (some ⟨(w.heap.size + 1 + 1), 5, none⟩)), (some (102, true), .int .u8 (x.bin : Int)), (some (102, true), .bool mb), (some (99, true), .bool mb), (some (99, true), .bool mb), (some (107, false), gd mb false (.pointer (some ⟨w1.heap.size, 4, none⟩))), (some (107, false), gd mb false (.bool true)), (some (107, false), gd mb false (.bool false)), (some (107, false), gd mb false (.bool false)), (some (111, true), undef), (some (111, true), undef), (some (111, true), undef), (some (107, false), gd mb false (.bool false)), (some (99, true), .bool dd0), (none, .bool dd0), (none, .bool dd0), (some (118, true), gd dd0 true (.pointer (some ⟨(w.heap.size + 1 + 1), 6, none⟩))), (some (118, true), gd dd0 true (.slice X ng cx)), (some (118, true), gd dd0 true (.int .i64 (ng : Int))), (some (118, true), gd dd0 true (.int .i64 0)), (some (118, true), gd dd0 true (.bool ((ng : Int) == 0))), (none, .bool dd1), (none, .bool dd1), (some (125, true), gd dd1 true (.pointer (some ⟨(w.heap.size + 1 + 1), 6, none⟩))), (some (125, true), gd dd1 true (.slice X ng cx)), (some (125, true), gd dd1 true (.func (.func 112) #[] #[.pointer (some ⟨w.heap.size + 1, 0, none⟩)])), (some (125, true), gd dd1 true (.bool wr)), (some (125, true), gd dd1 true (.bool (!wr))), (none, .bool dd2), (none, .bool dd2)] mixed (by kernel_rfl) ?_
          intro FF hF
          have hL : HasL FF [(5, .pointer (some ⟨(w.heap.size + 1 + 1), 0, none⟩)), (7, .pointer (some ⟨w1.heap.size, 0, none⟩)), (9, .int .i64 0), (10, .func (.func 112) #[] #[.pointer (some ⟨w.heap.size + 1, 0, none⟩)]), (92, .pointer (some ⟨w1.heap.size, 3, none⟩)), (93, .bool tN), (94, .bool tN), (95, gd tN false (.pointer (some ⟨(w.heap.size + 1 + 1), 4, none⟩))), (96, gd tN false (.int .i64 x.n)), (97, gd tN false (.bool (x.n == 0))), (98, .bool true), (99, .bool true), (100, .pointer (some ⟨w1.heap.size, 4, none⟩)), (101, .bool true), (102, .bool true), (103, .pointer (some ⟨(w.heap.size + 1 + 1), 5, none⟩)), (104, .int .u8 (x.bin : Int)), (105, .bool mb), (106, .bool mb), (107, .bool mb), (108, gd mb false (.pointer (some ⟨w1.heap.size, 4, none⟩))), (109, gd mb false (.bool true)), (110, gd mb false (.bool false)), (111, gd mb false (.bool false)), (112, undef), (113, undef), (114, undef), (115, gd mb false (.bool false)), (116, .bool dd0), (117, .bool dd0), (118, .bool dd0), (119, gd dd0 true (.pointer (some ⟨(w.heap.size + 1 + 1), 6, none⟩))), (120, gd dd0 true (.slice X ng cx)), (121, gd dd0 true (.int .i64 (ng : Int))), (122, gd dd0 true (.int .i64 0)), (123, gd dd0 true (.bool ((ng : Int) == 0))), (124, .bool dd1), (125, .bool dd1), (126, gd dd1 true (.pointer (some ⟨(w.heap.size + 1 + 1), 6, none⟩))), (127, gd dd1 true (.slice X ng cx)), (128, gd dd1 true (.func (.func 112) #[] #[.pointer (some ⟨w.heap.size + 1, 0, none⟩)])), (129, gd dd1 true (.bool wr)), (130, gd dd1 true (.bool (!wr))), (131, .bool dd2), (6, .bool dd2)] := by unfold HasL; rw [hF]; kernel_rfl
          have HF := Lib.hid hF; clear hF
          refine ⟨?_, ?_⟩
          · intro V hV
            repeat clear ‹∀ (a : Act) (w : World), Code.wp Tryz.prog _ _ a w → _›
            have gff := gd_ff
            have gtt := gd_tt
            exact
            ResL.cons (OpRes.val (by have a7 := hL.at 1 rfl; go_simp)) (
            ResL.cons (OpRes.val (by have a92 := hL.at 4 rfl; have kk := get_b hV Q43; go_simp)) (
            ResL.cons (OpRes.val (by have a93 := hL.at 5 rfl; go_simp)) (
            ResL.cons (OpRes.gval (hL.at 6 rfl) (fun e0 => by have a5 := hL.at 0 rfl; subst e0; go_simp)) (
            ResL.cons (OpRes.gval (hL.at 6 rfl) (fun e0 => by have a95 := hL.at 7 rfl; have kk := get_b hV Q34; subst e0; go_simp)) (
            ResL.cons (OpRes.gval (hL.at 6 rfl) (fun e0 => by have a96 := hL.at 8 rfl; subst e0; go_simp)) (
            ResL.cons (OpRes.to (v := .bool (tN || (x.n == 0))) (by rw [hc]) (OpRes.val (by clear hc; have a94 := hL.at 6 rfl; have a97 := hL.at 9 rfl; cases tN <;> go_simp))) (
            ResL.cons (OpRes.val (by have a98 := hL.at 10 rfl; go_simp)) (
            ResL.cons (OpRes.goval (hL.at 11 rfl) (by have a7 := hL.at 1 rfl; go_simp)) (
            ResL.cons (OpRes.goval (hL.at 11 rfl) (by have a100 := hL.at 12 rfl; have kk := get_b hV Q44; go_simp)) (
            ResL.cons (OpRes.goval (hL.at 11 rfl) (by have a101 := hL.at 13 rfl; go_simp)) (
            ResL.cons (OpRes.goval (hL.at 14 rfl) (by have a5 := hL.at 0 rfl; go_simp)) (
            ResL.cons (OpRes.goval (hL.at 14 rfl) (by have a103 := hL.at 15 rfl; have kk := get_b hV Q35; go_simp)) (
            ResL.cons (OpRes.gocall 113 #[.int .u8 (x.bin : Int)] (hL.at 14 rfl) (by have a104 := hL.at 16 rfl; go_simp) ((by rw [HMB.out]; exact bins_any _ _))) (
            ResL.cons (OpRes.goval (hL.at 11 rfl) (by have a102 := hL.at 14 rfl; have a105 := hL.at 17 rfl; go_simp)) (
            ResL.cons (OpRes.goval (hL.at 11 rfl) (by have a106 := hL.at 18 rfl; go_simp)) (
            ResL.cons (OpRes.gval (hL.at 19 rfl) (fun e0 => by have a7 := hL.at 1 rfl; subst e0; go_simp)) (
            ResL.cons (OpRes.gval (hL.at 19 rfl) (fun e0 => by have a108 := hL.at 20 rfl; have kk := get_b hV Q44; subst e0; go_simp)) (
            ResL.cons (OpRes.gval (hL.at 19 rfl) (fun e0 => by have a109 := hL.at 21 rfl; subst e0; go_simp)) (
            ResL.cons (OpRes.gval (hL.at 19 rfl) (fun e0 => by have a110 := hL.at 22 rfl; subst e0; go_simp)) (
            ResL.cons (OpRes.skip (hL.at 23 rfl) (by cases mb <;> rfl)) (
            ResL.cons (OpRes.skip (hL.at 23 rfl) (by cases mb <;> rfl)) (
            ResL.cons (OpRes.skip (hL.at 23 rfl) (by cases mb <;> rfl)) (
            ResL.cons (OpRes.gval (hL.at 19 rfl) (fun e0 => by have a111 := hL.at 23 rfl; have a114 := hL.at 26 rfl; subst e0; go_simp)) (
            ResL.cons (OpRes.goval (hL.at 11 rfl) (by rw [Hdd0.out]; have a107 := hL.at 19 rfl; have a115 := hL.at 27 rfl; cases mb <;> go_simp)) (
            ResL.cons (OpRes.val (by have a99 := hL.at 11 rfl; have a116 := hL.at 28 rfl; go_simp)) (
            ResL.cons (OpRes.val (by have a117 := hL.at 29 rfl; go_simp)) (
            ResL.cons (OpRes.gval (hL.at 30 rfl) (fun e0 => by have a5 := hL.at 0 rfl; subst e0; go_simp)) (
            ResL.cons (OpRes.gval (hL.at 30 rfl) (fun e0 => by have a119 := hL.at 31 rfl; have kk := get_b hV Q36; subst e0; go_simp)) (
            ResL.cons (OpRes.gval (hL.at 30 rfl) (fun e0 => by have a120 := hL.at 32 rfl; subst e0; go_simp)) (
            ResL.cons (OpRes.gval (hL.at 30 rfl) (fun e0 => by have a9 := hL.at 2 rfl; subst e0; go_simp)) (
            ResL.cons (OpRes.gval (hL.at 30 rfl) (fun e0 => by have a121 := hL.at 33 rfl; have a122 := hL.at 34 rfl; subst e0; go_simp)) (
            ResL.cons (OpRes.val (by rw [Hdd1.out]; have a118 := hL.at 30 rfl; have a123 := hL.at 35 rfl; cases dd0 <;> go_simp)) (
            ResL.cons (OpRes.val (by have a124 := hL.at 36 rfl; go_simp)) (
            ResL.cons (OpRes.gval (hL.at 37 rfl) (fun e0 => by have a5 := hL.at 0 rfl; subst e0; go_simp)) (
            ResL.cons (OpRes.gval (hL.at 37 rfl) (fun e0 => by have a126 := hL.at 38 rfl; have kk := get_b hV Q36; subst e0; go_simp)) (
            ResL.cons (OpRes.gval (hL.at 37 rfl) (fun e0 => by have a10 := hL.at 3 rfl; subst e0; go_simp)) (
            ResL.cons (OpRes.gcall 42 #[.slice X ng cx, .func (.func 112) #[] #[.pointer (some ⟨w.heap.size + 1, 0, none⟩)]] (hL.at 37 rfl) (fun e0 => by have a127 := hL.at 39 rfl; have a128 := hL.at 40 rfl; subst e0; go_simp) (fun e0 => (by rw [HWR.out]; exact con_intsC _ x.args 112 _ _ (fun v => !decide (0 ≤ v ∧ v < fn.vars)) (HXW.out.below hV) HAL.out (fun a U => enter112 a _ U) (fun y _ U hU => wrong_b y fn.vars (w.heap.size + 1) U (get_b (hV.trans (hU.mono hV.size)) Q22))))) (
            ResL.cons (OpRes.gval (hL.at 37 rfl) (fun e0 => by have a129 := hL.at 41 rfl; subst e0; go_simp)) (
            ResL.cons (OpRes.val (by rw [Hdd2.out]; have a125 := hL.at 37 rfl; have a130 := hL.at 42 rfl; cases dd1 <;> go_simp)) (
            ResL.cons (OpRes.val (by have a131 := hL.at 43 rfl; go_simp)) (
            ResL.nil)))))))))))))))))))))))))))))))))))))))))
          intro V hV
          clear hL
          obtain ⟨gg, hFF⟩ : ∃ gg : Nat → Value, FF = ⟨List.toArray (gg 0 :: gg 1 :: gg 2 :: gg 3 :: gg 4 :: gg 5 :: .bool dd2 :: gg 7 :: gg 8 :: gg 9 :: gg 10 :: gg 11 :: gg 12 :: gg 13 :: gg 14 :: gg 15 :: gg 16 :: gg 17 :: gg 18 :: gg 19 :: gg 20 :: gg 21 :: gg 22 :: gg 23 :: gg 24 :: gg 25 :: gg 26 :: gg 27 :: gg 28 :: gg 29 :: gg 30 :: gg 31 :: gg 32 :: gg 33 :: gg 34 :: gg 35 :: gg 36 :: gg 37 :: gg 38 :: gg 39 :: gg 40 :: gg 41 :: gg 42 :: gg 43 :: gg 44 :: gg 45 :: gg 46 :: gg 47 :: gg 48 :: gg 49 :: gg 50 :: gg 51 :: gg 52 :: gg 53 :: gg 54 :: gg 55 :: gg 56 :: gg 57 :: gg 58 :: gg 59 :: gg 60 :: gg 61 :: gg 62 :: gg 63 :: gg 64 :: gg 65 :: gg 66 :: gg 67 :: gg 68 :: gg 69 :: gg 70 :: gg 71 :: gg 72 :: gg 73 :: gg 74 :: gg 75 :: gg 76 :: gg 77 :: gg 78 :: gg 79 :: gg 80 :: gg 81 :: gg 82 :: gg 83 :: gg 84 :: gg 85 :: gg 86 :: gg 87 :: gg 88 :: gg 89 :: gg 90 :: gg 91 :: gg 92 :: gg 93 :: gg 94 :: gg 95 :: gg 96 :: gg 97 :: gg 98 :: gg 99 :: gg 100 :: gg 101 :: gg 102 :: gg 103 :: gg 104 :: gg 105 :: gg 106 :: gg 107 :: gg 108 :: gg 109 :: gg 110 :: gg 111 :: gg 112 :: gg 113 :: gg 114 :: gg 115 :: gg 116 :: gg 117 :: gg 118 :: gg 119 :: gg 120 :: gg 121 :: gg 122 :: gg 123 :: gg 124 :: gg 125 :: gg 126 :: gg 127 :: gg 128 :: gg 129 :: gg 130 :: gg 131 :: []), []⟩ := ⟨fun k => FF.tmps.getD k undef, by rw [HF.out]; kernel_rfl⟩
          clear HF
          subst hFF
          refine wpList_nil ?_
          have HVB := Lib.hid (HBW.out.trans (hV.mono HBW.out.size)); clear hV
          have HEQ : Hid (dd2 = res) := Lib.hid (by have := HR.out; rw [this, hc]; have qdd0 := Hdd0.out; have qdd1 := Hdd1.out; have qdd2 := Hdd2.out; subst qdd2 qdd1 qdd0; simp)
          clear hc
          go_wp2_with fail
          go_ret
          exact ⟨ret_b HEQ.out, HVB.out⟩
    | true =>
      have hx := H4.out
      unfold fitsW at hx
      simp only [if_true, Bool.and_eq_true, decide_eq_true_eq] at hx
      obtain ⟨hx0, hx1⟩ := hx
      have hxl : x.f.toNat < l.length := by rw [← HNL.out]; omega
      obtain ⟨y, hy⟩ : ∃ y, l[x.f.toNat]? = some y := ⟨_, List.getElem?_eq_getElem hxl⟩
      have hmp : many = y.fn.params := by
        have hp : p.fns[x.f.toNat]? = some y.fn := by rw [← HE.out, List.getElem?_map, hy]; rfl
        rw [HMANY.out, manyW, HG.out, if_pos rfl, hp]
        rfl
      obtain ⟨b, o, rfl, hat⟩ : ∃ b o, F = some ⟨b, o, none⟩ ∧ fnAt W b (o + x.f.toNat * 4) y := by
        rcases HFW.out with e | ⟨b, o, e, k⟩
        · rw [e] at hy; simp at hy
        · exact ⟨b, o, e, k _ y hy⟩
      have y1 := hat.c1
      rw [← hmp] at y1
      have lb := cell_lt' y1
      clear hat hy hmp hxl
      go_upto_region 8 with fail
      clear y1 lb hx0 hx1
      cases hc : (tN || (x.n == 0)) with
      | false =>
        refine wp_region_vals [(none, .pointer (some ⟨w1.heap.size, 3, none⟩)), (none, .bool tN), (none, .bool tN), (some (94, false), gd tN false (.pointer (some ⟨(w.heap.size + 1 + 1), 4, none⟩))), (some (94, false), gd tN false (.int .i64 x.n)), (some (94, false), gd tN false (.bool (x.n == 0))), (none, .bool false), (none, .bool false), (some (99, true), undef), (some (99, true), undef), (some (99, true), undef), (some (102, true), undef), (some (102, true), undef), (some (102, true), undef), (some (99, true), undef), (some (99, true), undef), (some (107, false), undef), (some (107, false), undef), (some (107, false), undef), (some (107, false), undef), (some (111, true), undef), (some (111, true), undef), (some (111, true), undef), (some (107, false), undef), (some (99, true), undef), (none, .bool false), (none, .bool false), (some (118, true), undef), (some (118, true), undef), (some (118, true), undef), (some (118, true), undef), (some (118, true), undef), (none, .bool false), (none, .bool false), (some (125, true), undef), (some (125, true), undef), (some (125, true), undef), (some (125, true), undef), (some (125, true), undef), (none, .bool false), (none, .bool false)] mixed (by kernel_rfl) ?_
        intro FF hF
        have hL : HasL FF [(5, .pointer (some ⟨(w.heap.size + 1 + 1), 0, none⟩)), (7, .pointer (some ⟨w1.heap.size, 0, none⟩)), (92, .pointer (some ⟨w1.heap.size, 3, none⟩)), (93, .bool tN), (94, .bool tN), (95, gd tN false (.pointer (some ⟨(w.heap.size + 1 + 1), 4, none⟩))), (96, gd tN false (.int .i64 x.n)), (97, gd tN false (.bool (x.n == 0))), (98, .bool false), (99, .bool false), (100, undef), (101, undef), (102, undef), (103, undef), (104, undef), (105, undef), (106, undef), (107, undef), (108, undef), (109, undef), (110, undef), (111, undef), (112, undef), (113, undef), (114, undef), (115, undef), (116, undef), (117, .bool false), (118, .bool false), (119, undef), (120, undef), (121, undef), (122, undef), (123, undef), (124, .bool false), (125, .bool false), (126, undef), (127, undef), (128, undef), (129, undef), (130, undef), (131, .bool false), (6, .bool false)] := by unfold HasL; rw [hF]; kernel_rfl
        have HF := Lib.hid hF; clear hF
        refine ⟨?_, ?_⟩
        · intro V hV
          repeat clear ‹∀ (a : Act) (w : World), Code.wp Tryz.prog _ _ a w → _›
          have gff := gd_ff
          have gtt := gd_tt
          exact
          ResL.cons (OpRes.val (by have a7 := hL.at 1 rfl; go_simp)) (
          ResL.cons (OpRes.val (by have a92 := hL.at 2 rfl; have kk := get_b hV Q43; go_simp)) (
          ResL.cons (OpRes.val (by have a93 := hL.at 3 rfl; go_simp)) (
          ResL.cons (OpRes.gval (hL.at 4 rfl) (fun e0 => by have a5 := hL.at 0 rfl; subst e0; go_simp)) (
          ResL.cons (OpRes.gval (hL.at 4 rfl) (fun e0 => by have a95 := hL.at 5 rfl; have kk := get_b hV Q34; subst e0; go_simp)) (
          ResL.cons (OpRes.gval (hL.at 4 rfl) (fun e0 => by have a96 := hL.at 6 rfl; subst e0; go_simp)) (
          ResL.cons (OpRes.to (v := .bool (tN || (x.n == 0))) (by rw [hc]) (OpRes.val (by clear hc; have a94 := hL.at 4 rfl; have a97 := hL.at 7 rfl; cases tN <;> go_simp))) (
          ResL.cons (OpRes.val (by have a98 := hL.at 8 rfl; go_simp)) (
          ResL.cons (OpRes.skip (hL.at 9 rfl) (rfl)) (
          ResL.cons (OpRes.skip (hL.at 9 rfl) (rfl)) (
          ResL.cons (OpRes.skip (hL.at 9 rfl) (rfl)) (
          ResL.cons (OpRes.skip (hL.at 12 rfl) (rfl)) (
          ResL.cons (OpRes.skip (hL.at 12 rfl) (rfl)) (
          ResL.cons (OpRes.skip (hL.at 12 rfl) (rfl)) (
          ResL.cons (OpRes.skip (hL.at 9 rfl) (rfl)) (
          ResL.cons (OpRes.skip (hL.at 9 rfl) (rfl)) (
          ResL.cons (OpRes.skip (hL.at 17 rfl) (rfl)) (
          ResL.cons (OpRes.skip (hL.at 17 rfl) (rfl)) (
          ResL.cons (OpRes.skip (hL.at 17 rfl) (rfl)) (
          ResL.cons (OpRes.skip (hL.at 17 rfl) (rfl)) (
          ResL.cons (OpRes.skip (hL.at 21 rfl) (rfl)) (
          ResL.cons (OpRes.skip (hL.at 21 rfl) (rfl)) (
          ResL.cons (OpRes.skip (hL.at 21 rfl) (rfl)) (
          ResL.cons (OpRes.skip (hL.at 17 rfl) (rfl)) (
          ResL.cons (OpRes.skip (hL.at 9 rfl) (rfl)) (
          ResL.cons (OpRes.val (by have a99 := hL.at 9 rfl; have a116 := hL.at 26 rfl; go_simp)) (
          ResL.cons (OpRes.val (by have a117 := hL.at 27 rfl; go_simp)) (
          ResL.cons (OpRes.skip (hL.at 28 rfl) (rfl)) (
          ResL.cons (OpRes.skip (hL.at 28 rfl) (rfl)) (
          ResL.cons (OpRes.skip (hL.at 28 rfl) (rfl)) (
          ResL.cons (OpRes.skip (hL.at 28 rfl) (rfl)) (
          ResL.cons (OpRes.skip (hL.at 28 rfl) (rfl)) (
          ResL.cons (OpRes.val (by have a118 := hL.at 28 rfl; have a123 := hL.at 33 rfl; go_simp)) (
          ResL.cons (OpRes.val (by have a124 := hL.at 34 rfl; go_simp)) (
          ResL.cons (OpRes.skip (hL.at 35 rfl) (rfl)) (
          ResL.cons (OpRes.skip (hL.at 35 rfl) (rfl)) (
          ResL.cons (OpRes.skip (hL.at 35 rfl) (rfl)) (
          ResL.cons (OpRes.skip (hL.at 35 rfl) (rfl)) (
          ResL.cons (OpRes.skip (hL.at 35 rfl) (rfl)) (
          ResL.cons (OpRes.val (by have a125 := hL.at 35 rfl; have a130 := hL.at 40 rfl; go_simp)) (
          ResL.cons (OpRes.val (by have a131 := hL.at 41 rfl; go_simp)) (
          ResL.nil)))))))))))))))))))))))))))))))))))))))))
        intro V hV
        clear hL
        obtain ⟨gg, hFF⟩ : ∃ gg : Nat → Value, FF = ⟨List.toArray (gg 0 :: gg 1 :: gg 2 :: gg 3 :: gg 4 :: gg 5 :: .bool false :: gg 7 :: gg 8 :: gg 9 :: gg 10 :: gg 11 :: gg 12 :: gg 13 :: gg 14 :: gg 15 :: gg 16 :: gg 17 :: gg 18 :: gg 19 :: gg 20 :: gg 21 :: gg 22 :: gg 23 :: gg 24 :: gg 25 :: gg 26 :: gg 27 :: gg 28 :: gg 29 :: gg 30 :: gg 31 :: gg 32 :: gg 33 :: gg 34 :: gg 35 :: gg 36 :: gg 37 :: gg 38 :: gg 39 :: gg 40 :: gg 41 :: gg 42 :: gg 43 :: gg 44 :: gg 45 :: gg 46 :: gg 47 :: gg 48 :: gg 49 :: gg 50 :: gg 51 :: gg 52 :: gg 53 :: gg 54 :: gg 55 :: gg 56 :: gg 57 :: gg 58 :: gg 59 :: gg 60 :: gg 61 :: gg 62 :: gg 63 :: gg 64 :: gg 65 :: gg 66 :: gg 67 :: gg 68 :: gg 69 :: gg 70 :: gg 71 :: gg 72 :: gg 73 :: gg 74 :: gg 75 :: gg 76 :: gg 77 :: gg 78 :: gg 79 :: gg 80 :: gg 81 :: gg 82 :: gg 83 :: gg 84 :: gg 85 :: gg 86 :: gg 87 :: gg 88 :: gg 89 :: gg 90 :: gg 91 :: gg 92 :: gg 93 :: gg 94 :: gg 95 :: gg 96 :: gg 97 :: gg 98 :: gg 99 :: gg 100 :: gg 101 :: gg 102 :: gg 103 :: gg 104 :: gg 105 :: gg 106 :: gg 107 :: gg 108 :: gg 109 :: gg 110 :: gg 111 :: gg 112 :: gg 113 :: gg 114 :: gg 115 :: gg 116 :: gg 117 :: gg 118 :: gg 119 :: gg 120 :: gg 121 :: gg 122 :: gg 123 :: gg 124 :: gg 125 :: gg 126 :: gg 127 :: gg 128 :: gg 129 :: gg 130 :: gg 131 :: []), []⟩ := ⟨fun k => FF.tmps.getD k undef, by rw [HF.out]; kernel_rfl⟩
        clear HF
        subst hFF
        refine wpList_nil ?_
        have HVB := Lib.hid (HBW.out.trans (hV.mono HBW.out.size)); clear hV
        have HEQ : Hid (false = res) := Lib.hid (by have := HR.out; rw [this, hc]; simp)
        clear hc
        go_wp2_with fail
        go_ret
        exact ⟨ret_b HEQ.out, HVB.out⟩
      | true =>
        cases tO with
        | false =>
          obtain ⟨dd0, hdd0⟩ : ∃ b : Bool, b = ((x.bin : Int) == 0) := ⟨_, rfl⟩
          have Hdd0 := Lib.hid hdd0; clear hdd0
          obtain ⟨dd1, hdd1⟩ : ∃ b : Bool, b = (dd0 && ((ng : Int) == many)) := ⟨_, rfl⟩
          have Hdd1 := Lib.hid hdd1; clear hdd1
          obtain ⟨dd2, hdd2⟩ : ∃ b : Bool, b = (dd1 && (!wr)) := ⟨_, rfl⟩
          have Hdd2 := Lib.hid hdd2; clear hdd2
          refine wp_region_vals [(none, .pointer (some ⟨w1.heap.size, 3, none⟩)), (none, .bool tN), (none, .bool tN), (some (94, false), gd tN false (.pointer (some ⟨(w.heap.size + 1 + 1), 4, none⟩))), (some (94, false), gd tN false (.int .i64 x.n)), (some (94, false), gd tN false (.bool (x.n == 0))), (none, .bool true), (none, .bool true), (some (99, true), .pointer (some ⟨w1.heap.size, 4, none⟩)), (some (99, true), .bool false), (some (99, true), .bool false), (some (102, true), undef), (some (102, true), undef), (some (102, true), undef), (some (99, true), .bool false), (some (99, true), .bool false), (some (107, false), .pointer (some ⟨w1.heap.size, 4, none⟩)), (some (107, false), .bool false), (some (107, false), .bool true), (some (107, false), .bool true), (some (111, true), .pointer (some ⟨(w.heap.size + 1 + 1), 5, none⟩)), (some (111, true), .int .u8 (x.bin : Int)), (some (111, true), .bool ((x.bin : Int) == 0)), (some (107, false), .bool ((x.bin : Int) == 0)), (some (99, true), .bool ((x.bin : Int) == 0)), (none, .bool ((x.bin : Int) == 0)), (none, .bool dd0), (some (118, true), gd dd0 true (.pointer (some ⟨(w.heap.size + 1 + 1), 6, none⟩))), (some (118, true), gd dd0 true (.slice X ng cx)), (some (118, true), gd dd0 true (.int .i64 (ng : Int))), (some (118, true), gd dd0 true (.int .i64 many)), (some (118, true), gd dd0 true (.bool ((ng : Int) == many))), (none, .bool dd1), (none, .bool dd1), (some (125, true), gd dd1 true (.pointer (some ⟨(w.heap.size + 1 + 1), 6, none⟩))), (some (125, true), gd dd1 true (.slice X ng cx)), (some (125, true), gd dd1 true (.func (.func 112) #[] #[.pointer (some ⟨w.heap.size + 1, 0, none⟩)])), (some (125, true), gd dd1 true (.bool wr)), (some (125, true), gd dd1 true (.bool (!wr))), (none, .bool dd2), (none, .bool dd2)] mixed (by kernel_rfl) ?_
          intro FF hF
          have hL : HasL FF [(5, .pointer (some ⟨(w.heap.size + 1 + 1), 0, none⟩)), (7, .pointer (some ⟨w1.heap.size, 0, none⟩)), (9, .int .i64 many), (10, .func (.func 112) #[] #[.pointer (some ⟨w.heap.size + 1, 0, none⟩)]), (92, .pointer (some ⟨w1.heap.size, 3, none⟩)), (93, .bool tN), (94, .bool tN), (95, gd tN false (.pointer (some ⟨(w.heap.size + 1 + 1), 4, none⟩))), (96, gd tN false (.int .i64 x.n)), (97, gd tN false (.bool (x.n == 0))), (98, .bool true), (99, .bool true), (100, .pointer (some ⟨w1.heap.size, 4, none⟩)), (101, .bool false), (102, .bool false), (103, undef), (104, undef), (105, undef), (106, .bool false), (107, .bool false), (108, .pointer (some ⟨w1.heap.size, 4, none⟩)), (109, .bool false), (110, .bool true), (111, .bool true), (112, .pointer (some ⟨(w.heap.size + 1 + 1), 5, none⟩)), (113, .int .u8 (x.bin : Int)), (114, .bool ((x.bin : Int) == 0)), (115, .bool ((x.bin : Int) == 0)), (116, .bool ((x.bin : Int) == 0)), (117, .bool ((x.bin : Int) == 0)), (118, .bool dd0), (119, gd dd0 true (.pointer (some ⟨(w.heap.size + 1 + 1), 6, none⟩))), (120, gd dd0 true (.slice X ng cx)), (121, gd dd0 true (.int .i64 (ng : Int))), (122, gd dd0 true (.int .i64 many)), (123, gd dd0 true (.bool ((ng : Int) == many))), (124, .bool dd1), (125, .bool dd1), (126, gd dd1 true (.pointer (some ⟨(w.heap.size + 1 + 1), 6, none⟩))), (127, gd dd1 true (.slice X ng cx)), (128, gd dd1 true (.func (.func 112) #[] #[.pointer (some ⟨w.heap.size + 1, 0, none⟩)])), (129, gd dd1 true (.bool wr)), (130, gd dd1 true (.bool (!wr))), (131, .bool dd2), (6, .bool dd2)] := by unfold HasL; rw [hF]; kernel_rfl
          have HF := Lib.hid hF; clear hF
          refine ⟨?_, ?_⟩
          · intro V hV
            repeat clear ‹∀ (a : Act) (w : World), Code.wp Tryz.prog _ _ a w → _›
            have gff := gd_ff
            have gtt := gd_tt
            exact
            ResL.cons (OpRes.val (by have a7 := hL.at 1 rfl; go_simp)) (
            ResL.cons (OpRes.val (by have a92 := hL.at 4 rfl; have kk := get_b hV Q43; go_simp)) (
            ResL.cons (OpRes.val (by have a93 := hL.at 5 rfl; go_simp)) (
            ResL.cons (OpRes.gval (hL.at 6 rfl) (fun e0 => by have a5 := hL.at 0 rfl; subst e0; go_simp)) (
            ResL.cons (OpRes.gval (hL.at 6 rfl) (fun e0 => by have a95 := hL.at 7 rfl; have kk := get_b hV Q34; subst e0; go_simp)) (
            ResL.cons (OpRes.gval (hL.at 6 rfl) (fun e0 => by have a96 := hL.at 8 rfl; subst e0; go_simp)) (
            ResL.cons (OpRes.to (v := .bool (tN || (x.n == 0))) (by rw [hc]) (OpRes.val (by clear hc; have a94 := hL.at 6 rfl; have a97 := hL.at 9 rfl; cases tN <;> go_simp))) (
            ResL.cons (OpRes.val (by have a98 := hL.at 10 rfl; go_simp)) (
            ResL.cons (OpRes.goval (hL.at 11 rfl) (by have a7 := hL.at 1 rfl; go_simp)) (
            ResL.cons (OpRes.goval (hL.at 11 rfl) (by have a100 := hL.at 12 rfl; have kk := get_b hV Q44; go_simp)) (
            ResL.cons (OpRes.goval (hL.at 11 rfl) (by have a101 := hL.at 13 rfl; go_simp)) (
            ResL.cons (OpRes.skip (hL.at 14 rfl) (rfl)) (
            ResL.cons (OpRes.skip (hL.at 14 rfl) (rfl)) (
            ResL.cons (OpRes.skip (hL.at 14 rfl) (rfl)) (
            ResL.cons (OpRes.goval (hL.at 11 rfl) (by have a102 := hL.at 14 rfl; have a105 := hL.at 17 rfl; go_simp)) (
            ResL.cons (OpRes.goval (hL.at 11 rfl) (by have a106 := hL.at 18 rfl; go_simp)) (
            ResL.cons (OpRes.goval (hL.at 19 rfl) (by have a7 := hL.at 1 rfl; go_simp)) (
            ResL.cons (OpRes.goval (hL.at 19 rfl) (by have a108 := hL.at 20 rfl; have kk := get_b hV Q44; go_simp)) (
            ResL.cons (OpRes.goval (hL.at 19 rfl) (by have a109 := hL.at 21 rfl; go_simp)) (
            ResL.cons (OpRes.goval (hL.at 19 rfl) (by have a110 := hL.at 22 rfl; go_simp)) (
            ResL.cons (OpRes.goval (hL.at 23 rfl) (by have a5 := hL.at 0 rfl; go_simp)) (
            ResL.cons (OpRes.goval (hL.at 23 rfl) (by have a112 := hL.at 24 rfl; have kk := get_b hV Q35; go_simp)) (
            ResL.cons (OpRes.goval (hL.at 23 rfl) (by have a113 := hL.at 25 rfl; go_simp)) (
            ResL.cons (OpRes.goval (hL.at 19 rfl) (by have a111 := hL.at 23 rfl; have a114 := hL.at 26 rfl; go_simp)) (
            ResL.cons (OpRes.goval (hL.at 11 rfl) (by have a107 := hL.at 19 rfl; have a115 := hL.at 27 rfl; go_simp)) (
            ResL.cons (OpRes.val (by have a99 := hL.at 11 rfl; have a116 := hL.at 28 rfl; go_simp)) (
            ResL.cons (OpRes.val (by rw [Hdd0.out]; have a117 := hL.at 29 rfl; go_simp)) (
            ResL.cons (OpRes.gval (hL.at 30 rfl) (fun e0 => by have a5 := hL.at 0 rfl; subst e0; go_simp)) (
            ResL.cons (OpRes.gval (hL.at 30 rfl) (fun e0 => by have a119 := hL.at 31 rfl; have kk := get_b hV Q36; subst e0; go_simp)) (
            ResL.cons (OpRes.gval (hL.at 30 rfl) (fun e0 => by have a120 := hL.at 32 rfl; subst e0; go_simp)) (
            ResL.cons (OpRes.gval (hL.at 30 rfl) (fun e0 => by have a9 := hL.at 2 rfl; subst e0; go_simp)) (
            ResL.cons (OpRes.gval (hL.at 30 rfl) (fun e0 => by have a121 := hL.at 33 rfl; have a122 := hL.at 34 rfl; subst e0; go_simp)) (
            ResL.cons (OpRes.val (by rw [Hdd1.out]; have a118 := hL.at 30 rfl; have a123 := hL.at 35 rfl; cases dd0 <;> go_simp)) (
            ResL.cons (OpRes.val (by have a124 := hL.at 36 rfl; go_simp)) (
            ResL.cons (OpRes.gval (hL.at 37 rfl) (fun e0 => by have a5 := hL.at 0 rfl; subst e0; go_simp)) (
            ResL.cons (OpRes.gval (hL.at 37 rfl) (fun e0 => by have a126 := hL.at 38 rfl; have kk := get_b hV Q36; subst e0; go_simp)) (
            ResL.cons (OpRes.gval (hL.at 37 rfl) (fun e0 => by have a10 := hL.at 3 rfl; subst e0; go_simp)) (
            ResL.cons (OpRes.gcall 42 #[.slice X ng cx, .func (.func 112) #[] #[.pointer (some ⟨w.heap.size + 1, 0, none⟩)]] (hL.at 37 rfl) (fun e0 => by have a127 := hL.at 39 rfl; have a128 := hL.at 40 rfl; subst e0; go_simp) (fun e0 => (by rw [HWR.out]; exact con_intsC _ x.args 112 _ _ (fun v => !decide (0 ≤ v ∧ v < fn.vars)) (HXW.out.below hV) HAL.out (fun a U => enter112 a _ U) (fun y _ U hU => wrong_b y fn.vars (w.heap.size + 1) U (get_b (hV.trans (hU.mono hV.size)) Q22))))) (
            ResL.cons (OpRes.gval (hL.at 37 rfl) (fun e0 => by have a129 := hL.at 41 rfl; subst e0; go_simp)) (
            ResL.cons (OpRes.val (by rw [Hdd2.out]; have a125 := hL.at 37 rfl; have a130 := hL.at 42 rfl; cases dd1 <;> go_simp)) (
            ResL.cons (OpRes.val (by have a131 := hL.at 43 rfl; go_simp)) (
            ResL.nil)))))))))))))))))))))))))))))))))))))))))
          intro V hV
          clear hL
          obtain ⟨gg, hFF⟩ : ∃ gg : Nat → Value, FF = ⟨List.toArray (gg 0 :: gg 1 :: gg 2 :: gg 3 :: gg 4 :: gg 5 :: .bool dd2 :: gg 7 :: gg 8 :: gg 9 :: gg 10 :: gg 11 :: gg 12 :: gg 13 :: gg 14 :: gg 15 :: gg 16 :: gg 17 :: gg 18 :: gg 19 :: gg 20 :: gg 21 :: gg 22 :: gg 23 :: gg 24 :: gg 25 :: gg 26 :: gg 27 :: gg 28 :: gg 29 :: gg 30 :: gg 31 :: gg 32 :: gg 33 :: gg 34 :: gg 35 :: gg 36 :: gg 37 :: gg 38 :: gg 39 :: gg 40 :: gg 41 :: gg 42 :: gg 43 :: gg 44 :: gg 45 :: gg 46 :: gg 47 :: gg 48 :: gg 49 :: gg 50 :: gg 51 :: gg 52 :: gg 53 :: gg 54 :: gg 55 :: gg 56 :: gg 57 :: gg 58 :: gg 59 :: gg 60 :: gg 61 :: gg 62 :: gg 63 :: gg 64 :: gg 65 :: gg 66 :: gg 67 :: gg 68 :: gg 69 :: gg 70 :: gg 71 :: gg 72 :: gg 73 :: gg 74 :: gg 75 :: gg 76 :: gg 77 :: gg 78 :: gg 79 :: gg 80 :: gg 81 :: gg 82 :: gg 83 :: gg 84 :: gg 85 :: gg 86 :: gg 87 :: gg 88 :: gg 89 :: gg 90 :: gg 91 :: gg 92 :: gg 93 :: gg 94 :: gg 95 :: gg 96 :: gg 97 :: gg 98 :: gg 99 :: gg 100 :: gg 101 :: gg 102 :: gg 103 :: gg 104 :: gg 105 :: gg 106 :: gg 107 :: gg 108 :: gg 109 :: gg 110 :: gg 111 :: gg 112 :: gg 113 :: gg 114 :: gg 115 :: gg 116 :: gg 117 :: gg 118 :: gg 119 :: gg 120 :: gg 121 :: gg 122 :: gg 123 :: gg 124 :: gg 125 :: gg 126 :: gg 127 :: gg 128 :: gg 129 :: gg 130 :: gg 131 :: []), []⟩ := ⟨fun k => FF.tmps.getD k undef, by rw [HF.out]; kernel_rfl⟩
          clear HF
          subst hFF
          refine wpList_nil ?_
          have HVB := Lib.hid (HBW.out.trans (hV.mono HBW.out.size)); clear hV
          have HEQ : Hid (dd2 = res) := Lib.hid (by have := HR.out; rw [this, hc]; have qdd0 := Hdd0.out; have qdd1 := Hdd1.out; have qdd2 := Hdd2.out; subst qdd2 qdd1 qdd0; simp)
          clear hc
          go_wp2_with fail
          go_ret
          exact ⟨ret_b HEQ.out, HVB.out⟩
        | true =>
          obtain ⟨dd0, hdd0⟩ : ∃ b : Bool, b = (mb || false) := ⟨_, rfl⟩
          have Hdd0 := Lib.hid hdd0; clear hdd0
          obtain ⟨dd1, hdd1⟩ : ∃ b : Bool, b = (dd0 && ((ng : Int) == many)) := ⟨_, rfl⟩
          have Hdd1 := Lib.hid hdd1; clear hdd1
          obtain ⟨dd2, hdd2⟩ : ∃ b : Bool, b = (dd1 && (!wr)) := ⟨_, rfl⟩
          have Hdd2 := Lib.hid hdd2; clear hdd2
          refine wp_region_vals [(none, .pointer (some ⟨w1.heap.size, 3, none⟩)), (none, .bool tN), (none, .bool tN), (some (94, false), gd tN false (.pointer (some ⟨(w.heap.size + 1 + 1), 4, none⟩))), (some (94, false), gd tN false (.int .i64 x.n)), (some (94, false), gd tN false (.bool (x.n == 0))), (none, .bool true), (none, .bool true), (some (99, true), .pointer (some ⟨w1.heap.size, 4, none⟩)), (some (99, true), .bool true), (some (99, true), .bool true), (some (102, true), .pointer (some ⟨(w.heap.size + 1 + 1), 5, none⟩)), (some (102, true), .int .u8 (x.bin : Int)), (some (102, true), .bool mb), (some (99, true), .bool mb), (some (99, true), .bool mb), (some (107, false), gd mb false (.pointer (some ⟨w1.heap.size, 4, none⟩))), (some (107, false), gd mb false (.bool true)), (some (107, false), gd mb false (.bool false)), (some (107, false), gd mb false (.bool false)), (some (111, true), undef), (some (111, true), undef), (some (111, true), undef), (some (107, false), gd mb false (.bool false)), (some (99, true), .bool dd0), (none, .bool dd0), (none, .bool dd0), (some (118, true), gd dd0 true (.pointer (some ⟨(w.heap.size + 1 + 1), 6, none⟩))), (some (118, true), gd dd0 true (.slice X ng cx)), (some (118, true), gd dd0 true (.int .i64 (ng : Int))), (some (118, true), gd dd0 true (.int .i64 many)), (some (118, true), gd dd0 true (.bool ((ng : Int) == many))), (none, .bool dd1), (none, .bool dd1), (some (125, true), gd dd1 true (.pointer (some ⟨(w.heap.size + 1 + 1), 6, none⟩))), (some (125, true), gd dd1 true (.slice X ng cx)), (some (125, true), gd dd1 true (.func (.func 112) #[] #[.pointer (some ⟨w.heap.size + 1, 0, none⟩)])), (some (125, true), gd dd1 true (.bool wr)), (some (125, true), gd dd1 true (.bool (!wr))), (none, .bool dd2), (none, .bool dd2)] mixed (by kernel_rfl) ?_
          intro FF hF
          have hL : HasL FF [(5, .pointer (some ⟨(w.heap.size + 1 + 1), 0, none⟩)), (7, .pointer (some ⟨w1.heap.size, 0, none⟩)), (9, .int .i64 many), (10, .func (.func 112) #[] #[.pointer (some ⟨w.heap.size + 1, 0, none⟩)]), (92, .pointer (some ⟨w1.heap.size, 3, none⟩)), (93, .bool tN), (94, .bool tN), (95, gd tN false (.pointer (some ⟨(w.heap.size + 1 + 1), 4, none⟩))), (96, gd tN false (.int .i64 x.n)), (97, gd tN false (.bool (x.n == 0))), (98, .bool true), (99, .bool true), (100, .pointer (some ⟨w1.heap.size, 4, none⟩)), (101, .bool true), (102, .bool true), (103, .pointer (some ⟨(w.heap.size + 1 + 1), 5, none⟩)), (104, .int .u8 (x.bin : Int)), (105, .bool mb), (106, .bool mb), (107, .bool mb), (108, gd mb false (.pointer (some ⟨w1.heap.size, 4, none⟩))), (109, gd mb false (.bool true)), (110, gd mb false (.bool false)), (111, gd mb false (.bool false)), (112, undef), (113, undef), (114, undef), (115, gd mb false (.bool false)), (116, .bool dd0), (117, .bool dd0), (118, .bool dd0), (119, gd dd0 true (.pointer (some ⟨(w.heap.size + 1 + 1), 6, none⟩))), (120, gd dd0 true (.slice X ng cx)), (121, gd dd0 true (.int .i64 (ng : Int))), (122, gd dd0 true (.int .i64 many)), (123, gd dd0 true (.bool ((ng : Int) == many))), (124, .bool dd1), (125, .bool dd1), (126, gd dd1 true (.pointer (some ⟨(w.heap.size + 1 + 1), 6, none⟩))), (127, gd dd1 true (.slice X ng cx)), (128, gd dd1 true (.func (.func 112) #[] #[.pointer (some ⟨w.heap.size + 1, 0, none⟩)])), (129, gd dd1 true (.bool wr)), (130, gd dd1 true (.bool (!wr))), (131, .bool dd2), (6, .bool dd2)] := by unfold HasL; rw [hF]; kernel_rfl
          have HF := Lib.hid hF; clear hF
          refine ⟨?_, ?_⟩
          · intro V hV
            repeat clear ‹∀ (a : Act) (w : World), Code.wp Tryz.prog _ _ a w → _›
            have gff := gd_ff
            have gtt := gd_tt
            exact
            ResL.cons (OpRes.val (by have a7 := hL.at 1 rfl; go_simp)) (
            ResL.cons (OpRes.val (by have a92 := hL.at 4 rfl; have kk := get_b hV Q43; go_simp)) (
            ResL.cons (OpRes.val (by have a93 := hL.at 5 rfl; go_simp)) (
            ResL.cons (OpRes.gval (hL.at 6 rfl) (fun e0 => by have a5 := hL.at 0 rfl; subst e0; go_simp)) (
            ResL.cons (OpRes.gval (hL.at 6 rfl) (fun e0 => by have a95 := hL.at 7 rfl; have kk := get_b hV Q34; subst e0; go_simp)) (
            ResL.cons (OpRes.gval (hL.at 6 rfl) (fun e0 => by have a96 := hL.at 8 rfl; subst e0; go_simp)) (
            ResL.cons (OpRes.to (v := .bool (tN || (x.n == 0))) (by rw [hc]) (OpRes.val (by clear hc; have a94 := hL.at 6 rfl; have a97 := hL.at 9 rfl; cases tN <;> go_simp))) (
            ResL.cons (OpRes.val (by have a98 := hL.at 10 rfl; go_simp)) (
            ResL.cons (OpRes.goval (hL.at 11 rfl) (by have a7 := hL.at 1 rfl; go_simp)) (
            ResL.cons (OpRes.goval (hL.at 11 rfl) (by have a100 := hL.at 12 rfl; have kk := get_b hV Q44; go_simp)) (
            ResL.cons (OpRes.goval (hL.at 11 rfl) (by have a101 := hL.at 13 rfl; go_simp)) (
            ResL.cons (OpRes.goval (hL.at 14 rfl) (by have a5 := hL.at 0 rfl; go_simp)) (
            ResL.cons (OpRes.goval (hL.at 14 rfl) (by have a103 := hL.at 15 rfl; have kk := get_b hV Q35; go_simp)) (
            ResL.cons (OpRes.gocall 113 #[.int .u8 (x.bin : Int)] (hL.at 14 rfl) (by have a104 := hL.at 16 rfl; go_simp) ((by rw [HMB.out]; exact bins_any _ _))) (
            ResL.cons (OpRes.goval (hL.at 11 rfl) (by have a102 := hL.at 14 rfl; have a105 := hL.at 17 rfl; go_simp)) (
            ResL.cons (OpRes.goval (hL.at 11 rfl) (by have a106 := hL.at 18 rfl; go_simp)) (
            ResL.cons (OpRes.gval (hL.at 19 rfl) (fun e0 => by have a7 := hL.at 1 rfl; subst e0; go_simp)) (
            ResL.cons (OpRes.gval (hL.at 19 rfl) (fun e0 => by have a108 := hL.at 20 rfl; have kk := get_b hV Q44; subst e0; go_simp)) (
            ResL.cons (OpRes.gval (hL.at 19 rfl) (fun e0 => by have a109 := hL.at 21 rfl; subst e0; go_simp)) (
            ResL.cons (OpRes.gval (hL.at 19 rfl) (fun e0 => by have a110 := hL.at 22 rfl; subst e0; go_simp)) (
            ResL.cons (OpRes.skip (hL.at 23 rfl) (by cases mb <;> rfl)) (
            ResL.cons (OpRes.skip (hL.at 23 rfl) (by cases mb <;> rfl)) (
            ResL.cons (OpRes.skip (hL.at 23 rfl) (by cases mb <;> rfl)) (
            ResL.cons (OpRes.gval (hL.at 19 rfl) (fun e0 => by have a111 := hL.at 23 rfl; have a114 := hL.at 26 rfl; subst e0; go_simp)) (
            ResL.cons (OpRes.goval (hL.at 11 rfl) (by rw [Hdd0.out]; have a107 := hL.at 19 rfl; have a115 := hL.at 27 rfl; cases mb <;> go_simp)) (
            ResL.cons (OpRes.val (by have a99 := hL.at 11 rfl; have a116 := hL.at 28 rfl; go_simp)) (
            ResL.cons (OpRes.val (by have a117 := hL.at 29 rfl; go_simp)) (
            ResL.cons (OpRes.gval (hL.at 30 rfl) (fun e0 => by have a5 := hL.at 0 rfl; subst e0; go_simp)) (
            ResL.cons (OpRes.gval (hL.at 30 rfl) (fun e0 => by have a119 := hL.at 31 rfl; have kk := get_b hV Q36; subst e0; go_simp)) (
            ResL.cons (OpRes.gval (hL.at 30 rfl) (fun e0 => by have a120 := hL.at 32 rfl; subst e0; go_simp)) (
            ResL.cons (OpRes.gval (hL.at 30 rfl) (fun e0 => by have a9 := hL.at 2 rfl; subst e0; go_simp)) (
            ResL.cons (OpRes.gval (hL.at 30 rfl) (fun e0 => by have a121 := hL.at 33 rfl; have a122 := hL.at 34 rfl; subst e0; go_simp)) (
            ResL.cons (OpRes.val (by rw [Hdd1.out]; have a118 := hL.at 30 rfl; have a123 := hL.at 35 rfl; cases dd0 <;> go_simp)) (
            ResL.cons (OpRes.val (by have a124 := hL.at 36 rfl; go_simp)) (
            ResL.cons (OpRes.gval (hL.at 37 rfl) (fun e0 => by have a5 := hL.at 0 rfl; subst e0; go_simp)) (
            ResL.cons (OpRes.gval (hL.at 37 rfl) (fun e0 => by have a126 := hL.at 38 rfl; have kk := get_b hV Q36; subst e0; go_simp)) (
            ResL.cons (OpRes.gval (hL.at 37 rfl) (fun e0 => by have a10 := hL.at 3 rfl; subst e0; go_simp)) (
            ResL.cons (OpRes.gcall 42 #[.slice X ng cx, .func (.func 112) #[] #[.pointer (some ⟨w.heap.size + 1, 0, none⟩)]] (hL.at 37 rfl) (fun e0 => by have a127 := hL.at 39 rfl; have a128 := hL.at 40 rfl; subst e0; go_simp) (fun e0 => (by rw [HWR.out]; exact con_intsC _ x.args 112 _ _ (fun v => !decide (0 ≤ v ∧ v < fn.vars)) (HXW.out.below hV) HAL.out (fun a U => enter112 a _ U) (fun y _ U hU => wrong_b y fn.vars (w.heap.size + 1) U (get_b (hV.trans (hU.mono hV.size)) Q22))))) (
            ResL.cons (OpRes.gval (hL.at 37 rfl) (fun e0 => by have a129 := hL.at 41 rfl; subst e0; go_simp)) (
            ResL.cons (OpRes.val (by rw [Hdd2.out]; have a125 := hL.at 37 rfl; have a130 := hL.at 42 rfl; cases dd1 <;> go_simp)) (
            ResL.cons (OpRes.val (by have a131 := hL.at 43 rfl; go_simp)) (
            ResL.nil)))))))))))))))))))))))))))))))))))))))))
          intro V hV
          clear hL
          obtain ⟨gg, hFF⟩ : ∃ gg : Nat → Value, FF = ⟨List.toArray (gg 0 :: gg 1 :: gg 2 :: gg 3 :: gg 4 :: gg 5 :: .bool dd2 :: gg 7 :: gg 8 :: gg 9 :: gg 10 :: gg 11 :: gg 12 :: gg 13 :: gg 14 :: gg 15 :: gg 16 :: gg 17 :: gg 18 :: gg 19 :: gg 20 :: gg 21 :: gg 22 :: gg 23 :: gg 24 :: gg 25 :: gg 26 :: gg 27 :: gg 28 :: gg 29 :: gg 30 :: gg 31 :: gg 32 :: gg 33 :: gg 34 :: gg 35 :: gg 36 :: gg 37 :: gg 38 :: gg 39 :: gg 40 :: gg 41 :: gg 42 :: gg 43 :: gg 44 :: gg 45 :: gg 46 :: gg 47 :: gg 48 :: gg 49 :: gg 50 :: gg 51 :: gg 52 :: gg 53 :: gg 54 :: gg 55 :: gg 56 :: gg 57 :: gg 58 :: gg 59 :: gg 60 :: gg 61 :: gg 62 :: gg 63 :: gg 64 :: gg 65 :: gg 66 :: gg 67 :: gg 68 :: gg 69 :: gg 70 :: gg 71 :: gg 72 :: gg 73 :: gg 74 :: gg 75 :: gg 76 :: gg 77 :: gg 78 :: gg 79 :: gg 80 :: gg 81 :: gg 82 :: gg 83 :: gg 84 :: gg 85 :: gg 86 :: gg 87 :: gg 88 :: gg 89 :: gg 90 :: gg 91 :: gg 92 :: gg 93 :: gg 94 :: gg 95 :: gg 96 :: gg 97 :: gg 98 :: gg 99 :: gg 100 :: gg 101 :: gg 102 :: gg 103 :: gg 104 :: gg 105 :: gg 106 :: gg 107 :: gg 108 :: gg 109 :: gg 110 :: gg 111 :: gg 112 :: gg 113 :: gg 114 :: gg 115 :: gg 116 :: gg 117 :: gg 118 :: gg 119 :: gg 120 :: gg 121 :: gg 122 :: gg 123 :: gg 124 :: gg 125 :: gg 126 :: gg 127 :: gg 128 :: gg 129 :: gg 130 :: gg 131 :: []), []⟩ := ⟨fun k => FF.tmps.getD k undef, by rw [HF.out]; kernel_rfl⟩
          clear HF
          subst hFF
          refine wpList_nil ?_
          have HVB := Lib.hid (HBW.out.trans (hV.mono HBW.out.size)); clear hV
          have HEQ : Hid (dd2 = res) := Lib.hid (by have := HR.out; rw [this, hc]; have qdd0 := Hdd0.out; have qdd1 := Hdd1.out; have qdd2 := Hdd2.out; subst qdd2 qdd1 qdd0; simp)
          clear hc
          go_wp2_with fail
          go_ret
          exact ⟨ret_b HEQ.out, HVB.out⟩
end Go.Proofs.YtgdibfnpkcdiiaaGreatDoor
