/- The walks over Agree, Apart, Right, Ended of the package trace and of its reference, and over what they call: each returns what its plain law says. By an AI agent. -/
import Derived.Test.YtadcegfdojocmaaDoorWalkA
namespace Go.Proofs.YtadcegfdojocmaaDoor
open Go.RowKit

/-- Is a number one of the first n? -/
def has (n : Nat) (q : Nat → Int) (x : Int) : Bool := decide (∃ i, i < n ∧ q i = x)

set_option maxHeartbeats 400000 in
theorem index_no (b o n c : Nat) (q : Nat → Int) (x : Int) (w : World) (hn : n ≤ 1000000) (hq : ∀ i, i < n → w.cell? ⟨b, o + i, none⟩ = some (.int .u8 (q i))) (h : ∀ i, i < n → q i ≠ x) :
    Calls Tryd.prog 48 #[.slice (some ⟨b, o, none⟩) n c, .int .u8 x] w fun e w' => e = .returned (.int .i64 (-1)) ∧ w = w' := by
  have H := Lib.hid h; clear h
  go_enter Tryd.func48, Tryd.ntmps48
  go_wp2
  go_loop [8] (fun i => ∃ k : Nat, k ≤ n ∧ i = .int .i64 k) (fun i => n - (intOf i).toNat)
  case atStart => exact ⟨0, Nat.zero_le _, rfl⟩
  case round =>
    obtain ⟨k, hk, rfl⟩ := hrel
    by_cases hlt : k < n
    · have e1 := hq k hlt
      have e2 : (x == q k) = false := beq_eq_false_iff_ne.2 (fun e => H.out k hlt e.symm)
      clear hq
      go_wp2
      go_round
      case rel => exact ⟨k + 1, by omega, by go_num⟩
      case measure => simp [intOf]; omega
    · clear hq
      go_wp2
      go_ret
      exact ⟨rfl, rfl⟩

set_option maxHeartbeats 400000 in
theorem index_yes (b o n c j : Nat) (q : Nat → Int) (x : Int) (w : World) (hn : n ≤ 1000000) (hq : ∀ i, i < n → w.cell? ⟨b, o + i, none⟩ = some (.int .u8 (q i))) (hj : j < n) (hx : q j = x) (h : ∀ i, i < j → q i ≠ x) :
    Calls Tryd.prog 48 #[.slice (some ⟨b, o, none⟩) n c, .int .u8 x] w fun e w' => e = .returned (.int .i64 j) ∧ w = w' := by
  have H := Lib.hid h; clear h
  have HX := Lib.hid hx; clear hx
  go_enter Tryd.func48, Tryd.ntmps48
  go_wp2
  go_loop [8] (fun i => ∃ k : Nat, k ≤ j ∧ i = .int .i64 k) (fun i => n - (intOf i).toNat)
  case atStart => exact ⟨0, Nat.zero_le _, rfl⟩
  case round =>
    obtain ⟨k, hk, rfl⟩ := hrel
    by_cases hlt : k < j
    · have e1 := hq k (by omega)
      have e2 : (x == q k) = false := beq_eq_false_iff_ne.2 (fun e => H.out k hlt e.symm)
      clear hq
      go_wp2
      go_round
      case rel => exact ⟨k + 1, by omega, by go_num⟩
      case measure => simp [intOf]; omega
    · obtain rfl : k = j := by omega
      have e1 := hq k hj
      have e2 : (x == q k) = true := beq_iff_eq.2 HX.out.symm
      clear hq
      go_wp2
      go_ret
      exact ⟨rfl, rfl⟩

theorem first_at (n : Nat) (q : Nat → Int) (x : Int) (h : ∃ i, i < n ∧ q i = x) : ∃ j, j < n ∧ q j = x ∧ ∀ i, i < j → q i ≠ x := by
  induction n with
  | zero => obtain ⟨i, hi, _⟩ := h; omega
  | succ n ih =>
    by_cases hp : ∃ i, i < n ∧ q i = x
    · obtain ⟨j, hj, hx, hf⟩ := ih hp
      exact ⟨j, by omega, hx, hf⟩
    · obtain ⟨i, hi, hx⟩ := h
      have : i = n := by
        by_cases hin : i < n
        · exact absurd ⟨i, hin, hx⟩ hp
        · omega
      subst this
      exact ⟨i, hi, hx, fun k hk hkx => hp ⟨k, hk, hkx⟩⟩

set_option maxHeartbeats 400000 in
theorem contains_any (b o n c : Nat) (q : Nat → Int) (x : Int) (w : World) (hn : n ≤ 1000000) (hq : ∀ i, i < n → w.cell? ⟨b, o + i, none⟩ = some (.int .u8 (q i))) :
    Calls Tryd.prog 39 #[.slice (some ⟨b, o, none⟩) n c, .int .u8 x] w fun e w' => e = .returned (.bool (has n q x)) ∧ w = w' := by
  have HQ := Lib.hid hq; clear hq
  by_cases hp : ∃ i, i < n ∧ q i = x
  · obtain ⟨j, hj, hx, hf⟩ := first_at n q x hp
    have hr : has n q x = true := decide_eq_true hp
    rw [hr]
    have HX := Lib.hid hx; have HF := Lib.hid hf
    clear hx hf hp hr
    go_enter Tryd.func39, Tryd.ntmps39
    go_wp2_with (go_at_call 48; refine (index_yes b o n c j q x _ hn HQ.out hj HX.out HF.out).mono ?_; rintro e w' ⟨rfl, rfl⟩)
    go_ret
    exact ⟨ret_bool (by simp), rfl⟩
  · have hr : has n q x = false := decide_eq_false hp
    rw [hr]
    have HP := Lib.hid hp
    clear hp hr
    go_enter Tryd.func39, Tryd.ntmps39
    go_wp2_with (go_at_call 48; refine (index_no b o n c q x _ hn HQ.out (fun i hi e => HP.out ⟨i, hi, e⟩)).mono ?_; rintro e w' ⟨rfl, rfl⟩)
    go_ret
    exact ⟨ret_bool (by simp), rfl⟩

set_option maxHeartbeats 400000 in
theorem is_any (b o n c : Nat) (q : Nat → Int) (k m : Int) (w : World) (hn : n ≤ 1000000) (hq : ∀ i, i < n → w.cell? ⟨b, o + i, none⟩ = some (.int .u8 (q i))) :
    Calls Tryd.prog 31 #[.agg #[.int .u8 k, .int .i64 m], .slice (some ⟨b, o, none⟩) n c] w fun e w' => e = .returned (.bool (has n q k)) ∧ Below w.heap.size w w' := by
  have HQ := Lib.hid (fun u i hi => cell_later ((Below.refl _ w).alloc (Nat.le_refl _) u) (hq i hi) : ∀ u i, i < n → (w.alloc u).cell? ⟨b, o + i, none⟩ = some (.int .u8 (q i))); clear hq
  go_enter Tryd.func31, Tryd.ntmps31
  go_wp2_with (go_at_call 39; refine (contains_any b o n c q k _ hn (HQ.out _)).mono ?_; rintro e w' ⟨rfl, rfl⟩)
  go_ret
  exact ⟨rfl, ((Below.refl _ _).alloc (Nat.le_refl _) _)⟩

/-- Is a trace right? -/
def rgt (n : Nat) (k : Nat → Int) : Bool := decide (∀ i, i < n → k i = 1 ∨ k i = 2 ∨ (i + 1 = n ∧ (k i = 3 ∨ k i = 4)))
/-- Has a trace ended? -/
def end' (n : Nat) (k : Nat → Int) : Bool := decide (0 < n ∧ (k (n - 1) = 3 ∨ k (n - 1) = 4))
def two (x y : Int) : Nat → Int := fun i => if i = 0 then x else y

theorem has_two (x y z : Int) : has 2 (two x y) z = (decide (x = z) || decide (y = z)) := by
  unfold has
  rw [Bool.eq_iff_iff]
  simp only [decide_eq_true_eq, Bool.or_eq_true]
  constructor
  · rintro ⟨i, hi, h⟩
    match i, hi with
    | 0, _ => exact Or.inl h
    | 1, _ => exact Or.inr h
  · rintro (h | h)
    · exact ⟨0, by omega, h⟩
    · exact ⟨1, by omega, h⟩

/-- 'is', of a slice of two kinds that was just made. -/
theorem is_two (b c : Nat) (x y k m : Int) (w : World) (h0 : w.cell? ⟨b, 0, none⟩ = some (.int .u8 x)) (h1 : w.cell? ⟨b, 1, none⟩ = some (.int .u8 y)) :
    Calls Tryd.prog 31 #[.agg #[.int .u8 k, .int .i64 m], .slice (some ⟨b, 0, none⟩) 2 c] w fun e w' => e = .returned (.bool (decide (x = k) || decide (y = k))) ∧ Below w.heap.size w w' := by
  rw [← has_two]
  refine is_any b 0 2 c (two x y) k m w (by omega) (fun i hi => ?_)
  match i, hi with
  | 0, _ => exact h0
  | 1, _ => exact h1

set_option maxHeartbeats 400000 in
theorem ended_zero (a : Option Addr) (c : Nat) (w : World) :
    Calls Tryd.prog 16 #[.slice a 0 c] w fun e w' => e = .returned (.bool false) ∧ Below w.heap.size w w' := by
  go_enter Tryd.func16, Tryd.ntmps16
  go_wp2_with (go_at_call 32; refine (last_zero a c _).mono ?_; rintro e w1 ⟨rfl, hb⟩)
  go_ret
  exact ⟨rfl, hb.alloc hb.size _⟩

set_option maxHeartbeats 400000 in
theorem ended_some (b o n c : Nat) (k m : Int) (w : World) (h0 : 0 < n) (hn : n ≤ 1000000)
    (h1 : w.cell? ⟨b, o + (n - 1) * 2, none⟩ = some (.int .u8 k)) (h2 : w.cell? ⟨b, o + (n - 1) * 2 + 1, none⟩ = some (.int .i64 m)) :
    Calls Tryd.prog 16 #[.slice (some ⟨b, o, none⟩) n c] w fun e w' => e = .returned (.bool (decide (3 = k) || decide (4 = k))) ∧ Below w.heap.size w w' := by
  have H1 := Lib.hid h1; have H2 := Lib.hid h2; clear h1 h2
  go_enter Tryd.func16, Tryd.ntmps16
  go_wp2_with (go_at_call 32; refine (last_some b o n c k m _ h0 hn H1.out H2.out).mono ?_; rintro e w1 ⟨rfl, hb⟩)
  refine (is_two _ _ 3 4 k m _ (by simp) (by simp)).mono ?_; rintro e w2 ⟨rfl, hb2⟩
  go_wp2_with fail
  go_ret
  exact ⟨rfl, below_next ((hb.alloc hb.size _).alloc (by have := hb.size; simp; omega) _) hb2⟩

theorem ended_any (a : Option Addr) (n c : Nat) (k m : Nat → Int) (w : World) (hn : n ≤ 1000000) (h : EvS w a n k m) :
    Calls Tryd.prog 16 #[.slice a n c] w fun e w' => e = .returned (.bool (end' n k)) ∧ Below w.heap.size w w' := by
  by_cases h0 : 0 < n
  · obtain ⟨b, o, rfl, h1, h2⟩ := h.last h0
    have hr : end' n k = (decide (3 = k (n - 1)) || decide (4 = k (n - 1))) := by
      unfold end'; rw [Bool.eq_iff_iff]; simp only [decide_eq_true_eq, Bool.or_eq_true]
      exact ⟨fun hh => hh.2.imp Eq.symm Eq.symm, fun hh => ⟨h0, hh.imp Eq.symm Eq.symm⟩⟩
    rw [hr]
    exact ended_some b o n c (k (n - 1)) (m (n - 1)) w h0 hn h1 h2
  · obtain rfl : n = 0 := by omega
    have hr : end' 0 k = false := by simp [end']
    rw [hr]
    exact ended_zero a c w

/-- May an event stand at i? -/
def okAt (n : Nat) (k : Nat → Int) (i : Nat) : Prop := k i = 1 ∨ k i = 2 ∨ (i + 1 = n ∧ (k i = 3 ∨ k i = 4))
instance (n : Nat) (k : Nat → Int) (i : Nat) : Decidable (okAt n k i) := by unfold okAt; infer_instance

theorem is_two_v (b c : Nat) (x y k m : Int) (v : Bool) (w : World) (h0 : w.cell? ⟨b, 0, none⟩ = some (.int .u8 x)) (h1 : w.cell? ⟨b, 1, none⟩ = some (.int .u8 y)) (hv : (decide (x = k) || decide (y = k)) = v) :
    Calls Tryd.prog 31 #[.agg #[.int .u8 k, .int .i64 m], .slice (some ⟨b, 0, none⟩) 2 c] w fun e w' => e = .returned (.bool v) ∧ Below w.heap.size w w' := hv ▸ is_two b c x y k m w h0 h1
theorem or_two {x y k : Int} (h : k = x ∨ k = y) : (decide (x = k) || decide (y = k)) = true := by
  rcases h with h | h <;> simp [h]
theorem or_two_not {x y k : Int} (h : ¬ (k = x ∨ k = y)) : (decide (x = k) || decide (y = k)) = false := by
  have h1 : ¬ x = k := fun e => h (Or.inl e.symm)
  have h2 : ¬ y = k := fun e => h (Or.inr e.symm)
  simp [h1, h2]
theorem bad_at {n j : Nat} {k : Nat → Int} (h1 : ¬ (k j = 1 ∨ k j = 2)) (h2 : ¬ (k j = 3 ∨ k j = 4)) (h : okAt n k j) : False := by
  rcases h with h | h | ⟨_, h⟩
  · exact h1 (Or.inl h)
  · exact h1 (Or.inr h)
  · exact h2 h
theorem bad_at' {n j : Nat} {k : Nat → Int} (h1 : ¬ (k j = 1 ∨ k j = 2)) (h2 : ¬ j + 1 = n) (h : okAt n k j) : False := by
  rcases h with h | h | ⟨h, _⟩
  · exact h1 (Or.inl h)
  · exact h1 (Or.inr h)
  · exact h2 h

set_option maxHeartbeats 1000000 in
theorem right_go (b o n c : Nat) (k m : Nat → Int) (w : World) (hn : n ≤ 1000000)
    (hk : ∀ i, i < n → w.cell? ⟨b, o + i * 2, none⟩ = some (.int .u8 (k i))) (hm : ∀ i, i < n → w.cell? ⟨b, o + i * 2 + 1, none⟩ = some (.int .i64 (m i))) :
    Calls Tryd.prog 14 #[.slice (some ⟨b, o, none⟩) n c] w fun e w' => e = .returned (.bool (rgt n k)) ∧ Below w.heap.size w w' := by
  have HK := Lib.hid hk; have HM := Lib.hid hm; clear hk hm
  go_enter Tryd.func14, Tryd.ntmps14
  go_wp2_with fail
  go_loopw [7] (fun i wr => ∃ j : Nat, j ≤ n ∧ i = .int .i64 j ∧ Below w.heap.size w wr ∧ ∀ x, x < j → okAt n k x) (fun i _ => n - (intOf i).toNat)
  case atStart => exact ⟨0, Nat.zero_le _, rfl, Below.refl _ _, fun j hj => absurd hj (Nat.not_lt_zero _)⟩
  case round =>
    obtain ⟨j, hj, rfl, hb, hall⟩ := hrel
    have H := Lib.hid hall; clear hall
    by_cases hlt : j < n
    · have e1 := cell_later hb (HK.out j hlt)
      have e2 := cell_later hb (HM.out j hlt)
      have hlb := cell_lt e1
      have hsz := hb.size
      by_cases hp : k j = 1 ∨ k j = 2
      · have HP := Lib.hid hp; clear hp
        go_wp2_with fail
        refine (is_two_v _ _ 1 2 (k j) (m j) true _ (by simp) (by simp) (or_two HP.out)).mono ?_; rintro e w2 ⟨rfl, hb2⟩
        go_wp2_with fail
        go_roundw
        case rel => exact ⟨j + 1, by omega, by go_num, hb.trans (((((Below.refl _ _).alloc hsz _).alloc (by simp; omega) _).trans (hb2.mono (by simp; omega)))), fun x hx => by
            by_cases hxj : x = j
            · rw [hxj]; exact HP.out.elim Or.inl (fun h => Or.inr (Or.inl h))
            · exact H.out x (by omega)⟩
        case measure => simp [intOf]; omega
      · have HP := Lib.hid hp; clear hp
        by_cases hlast : j + 1 = n
        · have hg : decide ((j : Int) < (n : Int) - 1) = false := by simp; omega
          have hl' : ¬ ((j : Int) < (n : Int) - 1) := by omega
          by_cases hq : k j = 3 ∨ k j = 4
          · have HQ := Lib.hid hq; have HL := Lib.hid hlast; clear hq hlast
            go_wp2_with fail
            refine (is_two_v _ _ 1 2 (k j) (m j) false _ (by simp) (by simp) (or_two_not HP.out)).mono ?_; rintro e w2 ⟨rfl, hb2⟩
            have g1 : w2.cell? ⟨wr.heap.size, 0, none⟩ = some (.int .u8 (k j)) := (hb2.cell (p := ⟨_, _, none⟩) (by simp; omega)).trans (by simp)
            have g2 : w2.cell? ⟨wr.heap.size, 1, none⟩ = some (.int .i64 (m j)) := (hb2.cell (p := ⟨_, _, none⟩) (by simp; omega)).trans (by simp)
            go_wp2_with fail
            refine (is_two_v _ _ 3 4 (k j) (m j) true _ (by simp) (by simp) (or_two HQ.out)).mono ?_; rintro e w3 ⟨rfl, hb3⟩
            go_wp2_with fail
            go_roundw
            case rel => exact ⟨j + 1, by omega, by go_num, hb.trans (((((Below.refl _ _).alloc hsz _).alloc (by simp; omega) _).trans (hb2.mono (by simp; omega))).trans ((((Below.refl _ _).alloc (by have := hb2.size; simp at this; omega) _)).trans (hb3.mono (by have := hb2.size; simp at this; simp; omega)))), fun x hx => by
                by_cases hxj : x = j
                · rw [hxj]; exact Or.inr (Or.inr ⟨HL.out, HQ.out⟩)
                · exact H.out x (by omega)⟩
            case measure => simp [intOf]; omega
          · have HQ := Lib.hid hq; have HL := Lib.hid hlast; clear hq hlast
            go_wp2_with fail
            refine (is_two_v _ _ 1 2 (k j) (m j) false _ (by simp) (by simp) (or_two_not HP.out)).mono ?_; rintro e w2 ⟨rfl, hb2⟩
            have g1 : w2.cell? ⟨wr.heap.size, 0, none⟩ = some (.int .u8 (k j)) := (hb2.cell (p := ⟨_, _, none⟩) (by simp; omega)).trans (by simp)
            have g2 : w2.cell? ⟨wr.heap.size, 1, none⟩ = some (.int .i64 (m j)) := (hb2.cell (p := ⟨_, _, none⟩) (by simp; omega)).trans (by simp)
            go_wp2_with fail
            refine (is_two_v _ _ 3 4 (k j) (m j) false _ (by simp) (by simp) (or_two_not HQ.out)).mono ?_; rintro e w3 ⟨rfl, hb3⟩
            go_wp2_with fail
            go_ret
            exact ⟨ret_bool (Eq.symm (decide_eq_false (fun h => bad_at HP.out HQ.out (h j hlt)))), hb.trans (((((Below.refl _ _).alloc hsz _).alloc (by simp; omega) _).trans (hb2.mono (by simp; omega))).trans ((((Below.refl _ _).alloc (by have := hb2.size; simp at this; omega) _)).trans (hb3.mono (by have := hb2.size; simp at this; simp; omega))))⟩
        · have hl' : ((j : Int) < (n : Int) - 1) := by omega
          have hg : decide ((j : Int) < (n : Int) - 1) = true := by simp; omega
          have HL := Lib.hid hlast; clear hlast
          go_wp2_with fail
          refine (is_two_v _ _ 1 2 (k j) (m j) false _ (by simp) (by simp) (or_two_not HP.out)).mono ?_; rintro e w2 ⟨rfl, hb2⟩
          go_wp2_with fail
          go_ret
          exact ⟨ret_bool (Eq.symm (decide_eq_false (fun h => bad_at' HP.out HL.out (h j hlt)))), hb.trans (((((Below.refl _ _).alloc hsz _).alloc (by simp; omega) _).trans (hb2.mono (by simp; omega))))⟩
    · go_wp2_with fail
      go_ret
      exact ⟨ret_bool (Eq.symm (decide_eq_true (fun i hi => H.out i (by omega)))), hb⟩

set_option maxHeartbeats 400000 in
theorem right_zero (a : Option Addr) (c : Nat) (k : Nat → Int) (w : World) :
    Calls Tryd.prog 14 #[.slice a 0 c] w fun e w' => e = .returned (.bool (rgt 0 k)) ∧ Below w.heap.size w w' := by
  go_enter Tryd.func14, Tryd.ntmps14
  go_wp2
  refine wp_loop_rounds 1 ?_
  rw [rounds_succ]
  go_wp2
  go_ret
  exact ⟨ret_bool (Eq.symm (decide_eq_true (fun i hi => absurd hi (Nat.not_lt_zero _)))), Below.refl _ _⟩

theorem right_any (a : Option Addr) (n c : Nat) (k m : Nat → Int) (w : World) (hn : n ≤ 1000000) (h : EvS w a n k m) :
    Calls Tryd.prog 14 #[.slice a n c] w fun e w' => e = .returned (.bool (rgt n k)) ∧ Below w.heap.size w w' := by
  rcases h with rfl | ⟨b, o, rfl, h1, h2⟩
  · exact right_zero a c k w
  · exact right_go b o n c k m w hn h1 h2

end Go.Proofs.YtadcegfdojocmaaDoor
