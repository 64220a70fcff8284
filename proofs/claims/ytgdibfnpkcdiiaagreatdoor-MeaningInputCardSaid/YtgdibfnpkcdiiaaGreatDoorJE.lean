/- Joint text: EvA, EvB, EvC, EvD. By an AI agent. -/
import Derived.Calls
import Derived.Laws.Sem
import Derived.Lib.FrozenHead
import Derived.Laws.Cells
import Derived.Laws.NewFold
/- Rows of words of 128 bits, a row being one number: what reading, replacing and appending cells does. No condition. -/
namespace Go.Proofs.YtgdibfnpkcdiiaaGreatDoor
namespace Ev

/-- The cell at a place. -/
def gt (M i : Nat) : Nat := Nat.land (Nat.shiftRight M (Nat.mul 128 i)) 340282366920938463463374607431768211455
/-- So many cells from a place on. -/
def ch (M i n : Nat) : Nat := Nat.land (Nat.shiftRight M (Nat.mul 128 i)) (Nat.sub (Nat.pow 2 (Nat.mul 128 n)) 1)
/-- So many cells from a place on replaced. -/
def up (M i n c : Nat) : Nat := Nat.xor M (Nat.shiftLeft (Nat.xor (ch M i n) c) (Nat.mul 128 i))
/-- Cells put behind. -/
def ad (M i c : Nat) : Nat := Nat.lor M (Nat.shiftLeft c (Nat.mul 128 i))

theorem bit_ch (M i n j : Nat) : (ch M i n).testBit j = (decide (j < 128 * n) && M.testBit (128 * i + j)) := by
  show ((M >>> (128 * i)) &&& (2 ^ (128 * n) - 1)).testBit j = _
  rw [Nat.testBit_and, Nat.testBit_shiftRight, Nat.testBit_two_pow_sub_one, Bool.and_comm]

theorem gt_eq (M i : Nat) : gt M i = ch M i 1 := rfl

theorem bit_gt (M i j : Nat) : (gt M i).testBit j = (decide (j < 128) && M.testBit (128 * i + j)) := by
  rw [gt_eq, bit_ch]

theorem bit_up (M i n c j : Nat) : (up M i n c).testBit j = (M.testBit j ^^ (decide (128 * i ≤ j) && ((ch M i n).testBit (j - 128 * i) ^^ c.testBit (j - 128 * i)))) := by
  show (M ^^^ ((ch M i n ^^^ c) <<< (128 * i))).testBit j = _
  rw [Nat.testBit_xor, Nat.testBit_shiftLeft, Nat.testBit_xor]

theorem bit_ad (M i c j : Nat) : (ad M i c).testBit j = (M.testBit j || (decide (128 * i ≤ j) && c.testBit (j - 128 * i))) := by
  show (M ||| (c <<< (128 * i))).testBit j = _
  rw [Nat.testBit_or, Nat.testBit_shiftLeft]

theorem bit_big {M n j : Nat} (h : M < 2 ^ n) (hj : n ≤ j) : M.testBit j = false :=
  Nat.testBit_lt_two_pow (Nat.lt_of_lt_of_le h (Nat.pow_le_pow_right (by omega) hj))

theorem lt_of_bits {M n : Nat} (h : ∀ j, n ≤ j → M.testBit j = false) : M < 2 ^ n := Nat.lt_pow_two_of_testBit M h

theorem ch_lt (M i n : Nat) : ch M i n < 2 ^ (128 * n) := lt_of_bits fun j hj => by
  rw [bit_ch, decide_eq_false (by omega)]; rfl
theorem gt_lt (M i : Nat) : gt M i < 2 ^ 128 := ch_lt M i 1

theorem gt_ch (M i n k : Nat) : gt (ch M i n) k = if k < n then gt M (i + k) else 0 := by
  refine Nat.eq_of_testBit_eq fun j => ?_
  rw [bit_gt, bit_ch]
  split
  · rw [bit_gt]
    by_cases hj : j < 128
    · have : 128 * k + j < 128 * n := by omega
      simp [hj, this, show 128 * i + (128 * k + j) = 128 * (i + k) + j from by omega]
    · simp [hj]
  · by_cases hj : j < 128
    · have : ¬ 128 * k + j < 128 * n := by omega
      simp [this]
    · simp [hj]

theorem gt_up {c n : Nat} (M i k : Nat) (h : c < 2 ^ (128 * n)) : gt (up M i n c) k = if i ≤ k ∧ k < i + n then gt c (k - i) else gt M k := by
  refine Nat.eq_of_testBit_eq fun j => ?_
  by_cases hj : j < 128
  · rw [bit_gt, bit_up]
    split
    · rename_i hk
      rw [bit_gt, bit_ch]
      have e1 : 128 * i ≤ 128 * k + j := by omega
      have e2 : 128 * k + j - 128 * i = 128 * (k - i) + j := by omega
      have e3 : 128 * (k - i) + j < 128 * n := by omega
      have e4 : 128 * i + (128 * (k - i) + j) = 128 * k + j := by omega
      simp [hj, e1, e2, e3, e4]
    · rename_i hk
      rw [bit_gt, bit_ch]
      by_cases e1 : 128 * i ≤ 128 * k + j
      · have e2 : ¬ 128 * k + j - 128 * i < 128 * n := by omega
        have e3 : c.testBit (128 * k + j - 128 * i) = false := bit_big h (by omega)
        simp [hj, e2, e3]
      · simp [hj, e1]
  · split <;> simp [bit_gt, hj]

theorem up_lt {M i n c m : Nat} (hM : M < 2 ^ (128 * m)) (hi : i + n ≤ m) (h : c < 2 ^ (128 * n)) : up M i n c < 2 ^ (128 * m) := by
  refine lt_of_bits fun j hj => ?_
  rw [bit_up, bit_big hM hj, bit_ch]
  have e1 : ¬ j - 128 * i < 128 * n := by omega
  have e2 : c.testBit (j - 128 * i) = false := bit_big h (by omega)
  simp [e1, e2]

theorem gt_ad {M i : Nat} (c k : Nat) (h : M < 2 ^ (128 * i)) : gt (ad M i c) k = if k < i then gt M k else gt c (k - i) := by
  refine Nat.eq_of_testBit_eq fun j => ?_
  by_cases hj : j < 128
  · rw [bit_gt, bit_ad]
    split
    · rw [bit_gt]
      have e1 : ¬ 128 * i ≤ 128 * k + j := by omega
      simp [hj, e1]
    · rw [bit_gt, bit_big h (by omega)]
      have e1 : 128 * i ≤ 128 * k + j := by omega
      have e2 : 128 * k + j - 128 * i = 128 * (k - i) + j := by omega
      simp [hj, e1, e2]
  · split <;> simp [bit_gt, hj]

theorem ad_lt {M i c n : Nat} (hM : M < 2 ^ (128 * i)) (h : c < 2 ^ (128 * n)) : ad M i c < 2 ^ (128 * (i + n)) := by
  refine lt_of_bits fun j hj => ?_
  rw [bit_ad, bit_big hM (by omega), bit_big h (by omega)]
  simp

theorem gt_big {M m k : Nat} (h : M < 2 ^ (128 * m)) (hk : m ≤ k) : gt M k = 0 := by
  refine Nat.eq_of_testBit_eq fun j => ?_
  rw [bit_gt, bit_big h (by omega)]
  simp

theorem gt_word {w : Nat} (k : Nat) (h : w < 2 ^ 128) : gt w k = if k = 0 then w else 0 := by
  split
  · rename_i hk
    subst hk
    refine Nat.eq_of_testBit_eq fun j => ?_
    rw [bit_gt]
    by_cases hj : j < 128
    · simp [hj]
    · simp [hj, bit_big h (show 128 ≤ j by omega)]
  · exact gt_big (m := 1) (by simpa using h) (by omega)

theorem gt_zero (k : Nat) : gt 0 k = 0 := by
  refine Nat.eq_of_testBit_eq fun j => ?_
  rw [bit_gt]; simp

theorem gt_set {w : Nat} (T d k : Nat) (h : w < 2 ^ 128) : gt (up T d 1 w) k = if k = d then w else gt T k := by
  rw [gt_up T d k (by simpa using h), gt_word _ h]
  by_cases hk : k = d
  · subst hk; simp
  · rw [if_neg (by omega), if_neg hk]

/-- A name for a number. (To force it here would be dearer.) -/
noncomputable def fc {α : Type} (x : Nat) (k : Nat → α) : α := k x
theorem fc_eq {α : Type} (x : Nat) (k : Nat → α) : fc x k = k x := rfl

end Ev
end Go.Proofs.YtgdibfnpkcdiiaaGreatDoor

/- What a word says of a value of the model: the relations VR (a cell) and TR (a slot), under a table of allocations. No condition. -/
namespace Go.Proofs.YtgdibfnpkcdiiaaGreatDoor
namespace Ev

def kc : IntKind → Nat
  | .i8 => 0 | .i16 => 1 | .i32 => 2 | .i64 => 3 | .u8 => 4 | .u16 => 5 | .u32 => 6 | .u64 => 7
theorem kc_lt (k : IntKind) : kc k < 8 := by cases k <;> decide
theorem kc_inj {j k : IntKind} (h : kc j = kc k) : j = k := by cases j <;> cases k <;> first | rfl | (exact absurd h (by decide))

noncomputable def eBool (b : Bool) : Nat := Bool.rec 1 17 b
def eInt (k : IntKind) (n : Int) : Nat := 2 + 16 * kc k + 256 * (n + 9223372036854775808).toNat
def eStr (st l : Nat) : Nat := 3 + 16 * l + 268435456 * st
def ePtr (s z o : Nat) : Nat := 5 + 16 * s + 268435456 * z + 4503599627370496 * o
def eSli (s z l e o : Nat) : Nat := 7 + 16 * s + 268435456 * z + 4503599627370496 * l + 75557863725914323419136 * e + 19342813113834066795298816 * o
def eMap (s : Nat) : Nat := 8 + 16 * s
def eFun (f m n s : Nat) : Nat := 10 + 16 * f + 1048576 * m + 268435456 * n + 68719476736 * s
def eFn0 (f : Nat) : Nat := 15 + 16 * f
def eIfc (t s : Nat) : Nat := 11 + 16 * t + 68719476736 * s
def eAgg (st n : Nat) : Nat := 12 + 16 * n + 268435456 * st
/-- A value that has a name: a number, a truth, a text, a slice's header. -/
def eSym (j : Nat) : Nat := 16 + 16 * j
def eTup (st n : Nat) : Nat := 13 + 16 * n + 268435456 * st

/-- What an allocation is: cells in a block (from where, how many, how many there are room for), a row of words that stays, a map. -/
inductive Info where
  | free
  | cells (blk base size room : Nat)
  | row (ws : List Nat)
  | map (blk : Nat)

structure Gh where
  rho : Nat → Info
  S : Nat
  nS : Nat
  rh : Nat → Value := fun _ => undef

def byteAt (S i : Nat) : Nat := Nat.land (Nat.shiftRight S (Nat.mul 8 i)) 255
def strOf (S st l : Nat) : ByteArray := ⟨((List.range l).map fun i => UInt8.ofNat (byteAt S (st + i))).toArray⟩

structure Gh.le (g g' : Gh) : Prop where
  rho : ∀ s, g.rho s ≠ .free → g'.rho s = g.rho s
  nS : g.nS ≤ g'.nS
  byte : ∀ i, i < g.nS → byteAt g'.S i = byteAt g.S i
  rh : g'.rh = g.rh

theorem Gh.le.refl (g : Gh) : g.le g := ⟨fun _ _ => rfl, Nat.le_refl _, fun _ _ => rfl, rfl⟩
theorem Gh.le.trans {a b c : Gh} (h : a.le b) (k : b.le c) : a.le c :=
  ⟨fun s hs => by rw [k.rho s (by rw [h.rho s hs]; exact hs), h.rho s hs], Nat.le_trans h.nS k.nS,
    fun i hi => (k.byte i (Nat.lt_of_lt_of_le hi h.nS)).trans (h.byte i hi), k.rh.trans h.rh⟩

theorem strOf_le {g g' : Gh} (h : g.le g') {st l : Nat} (hb : st + l ≤ g.nS) : strOf g'.S st l = strOf g.S st l := by
  unfold strOf
  congr 2
  refine List.map_congr_left fun i hi => ?_
  rw [h.byte _ (by have := List.mem_range.1 hi; omega)]

inductive VR (g : Gh) : Nat → Value → Prop
  | unk (v : Value) (h : v.oneCell' = true) : VR g 0 v
  | sym (j : Nat) (hj : j < 16777216) (h : (g.rh j).oneCell' = true) : VR g (eSym j) (g.rh j)
  | bool (b : Bool) : VR g (eBool b) (.bool b)
  | int (k : IntKind) (n : Int) (h1 : -9223372036854775808 ≤ n) (h2 : n < 18446744073709551616) : VR g (eInt k n) (.int k n)
  | str (st l : Nat) (h1 : l < 16777216) (h2 : st + l ≤ g.nS) (h3 : st < 4294967296) : VR g (eStr st l) (.string (strOf g.S st l))
  | pnil : VR g 4 (.pointer none)
  | ptr (s z o blk base room : Nat) (hs : s < 16777216) (hz : z < 16777216) (h : g.rho s = .cells blk base z room) (ho : o ≤ z) :
      VR g (ePtr s z o) (.pointer (some ⟨blk, base + o, none⟩))
  | snil : VR g 6 (.slice none 0 0)
  | sli (s z l e o blk base room cap : Nat) (a : Addr) (hs : s < 16777216) (hz : z < 16777216) (hl : l < 16777216) (he : e < 256) (h : g.rho s = .cells blk base z room)
      (ho : o + l * e ≤ z) (hc : l ≤ cap) (ha : cap = 0 ∨ (a = ⟨blk, base + o, none⟩ ∧ o + cap * e ≤ room)) : VR g (eSli s z l e o) (.slice (some a) l cap)
  | semp (a : Addr) : VR g 57 (.slice (some a) 0 0)
  | mnil : VR g 9 (.map none)
  | map (s blk : Nat) (hs : s < 16777216) (h : g.rho s = .map blk) : VR g (eMap s) (.map (some blk))
  | fnil : VR g 25 .nilFunc
  | inil : VR g 41 .nilIface
  | func (f m n s : Nat) (ws : List Nat) (first cap : Array Value) (hf : f < 65536) (hm : m < 256) (hn : n < 256) (hs : s < 16777216) (h : g.rho s = .row ws)
      (hm' : first.size = m) (hn' : cap.size = n) (hw : ws.length = m + n) (h1 : ∀ i, i < m → VR g (ws.getD i 0) (first.getD i undef))
      (h2 : ∀ i, i < n → VR g (ws.getD (m + i) 0) (cap.getD i undef)) : VR g (eFun f m n s) (.func (.func f) first cap)
  | fn0 (f : Nat) (hf : f < 65536) : VR g (eFn0 f) (.func (.func f) #[] #[])
  | ifc (t s w : Nat) (v : Value) (ht : t < 1048576) (hs : s < 16777216) (h : g.rho s = .row [w]) (hv : VR g w v) (h0 : w ≠ 0) : VR g (eIfc t s) (.iface t v)

theorem VR.mono {g g' : Gh} (h : g.le g') {w : Nat} {v : Value} (hv : VR g w v) : VR g' w v := by
  induction hv with
  | unk v h => exact .unk v h
  | sym j hj ho => rw [← h.rh]; exact .sym j hj (by rw [h.rh]; exact ho)
  | bool b => exact .bool b
  | int k n h1 h2 => exact .int k n h1 h2
  | str st l h1 h2 h3 => rw [← strOf_le h h2]; exact .str st l h1 (Nat.le_trans h2 h.nS) h3
  | pnil => exact .pnil
  | ptr s z o blk base room hs hz hr ho => exact .ptr s z o blk base room hs hz (by rw [h.rho s (by rw [hr]; simp), hr]) ho
  | snil => exact .snil
  | sli s z l e o blk base room cap a hs hz hl he hr ho hc ha => exact .sli s z l e o blk base room cap a hs hz hl he (by rw [h.rho s (by rw [hr]; simp), hr]) ho hc ha
  | semp a => exact .semp a
  | mnil => exact .mnil
  | map s blk hs hr => exact .map s blk hs (by rw [h.rho s (by rw [hr]; simp), hr])
  | fnil => exact .fnil
  | inil => exact .inil
  | func f m n s ws first cap hf hm hn hs hr hm' hn' hw _ _ i1 i2 => exact .func f m n s ws first cap hf hm hn hs (by rw [h.rho s (by rw [hr]; simp), hr]) hm' hn' hw i1 i2
  | fn0 f hf => exact .fn0 f hf
  | ifc t s w v ht hs hr _ h0 ih => exact .ifc t s w v ht hs (by rw [h.rho s (by rw [hr]; simp), hr]) ih h0

theorem VR.lt {g : Gh} {w : Nat} {v : Value} (hv : VR g w v) : w < 2 ^ 128 := by
  cases hv with
  | unk => decide
  | sym j hj => unfold eSym; omega
  | bool b => cases b <;> decide
  | int k n h1 h2 => have := kc_lt k; unfold eInt; omega
  | str st l h1 h2 h3 => unfold eStr; omega
  | ptr s z o _ _ _ hs hz _ ho => unfold ePtr; omega
  | sli s z l e o _ _ _ _ _ hs hz hl he _ ho => have : o ≤ z := Nat.le_trans (Nat.le_add_right _ _) ho; unfold eSli; omega
  | map s _ hs => unfold eMap; omega
  | func f m n s _ _ _ hf hm hn hs => unfold eFun; omega
  | fn0 f hf => unfold eFn0; omega
  | ifc t s _ _ ht hs => unfold eIfc; omega
  | _ => decide

section
variable {g : Gh} {w : Nat} {v : Value}
theorem VR.bool_inv (hv : VR g w v) (h : w % 16 = 1) : ∃ b, w = eBool b ∧ v = .bool b := by
  cases hv <;> first | exact ⟨_, rfl, rfl⟩ | (exfalso; (try simp only [eInt, eStr, ePtr, eSli, eMap, eFun, eIfc, eFn0, eSym] at h); omega)
theorem VR.int_inv (hv : VR g w v) (h : w % 16 = 2) : ∃ k n, w = eInt k n ∧ v = .int k n ∧ -9223372036854775808 ≤ n ∧ n < 18446744073709551616 := by
  cases hv <;> first | exact ⟨_, _, rfl, rfl, ‹_›, ‹_›⟩ | (exfalso; (try simp only [eStr, ePtr, eSli, eMap, eFun, eIfc, eFn0, eSym] at h); omega) | (rename_i b; cases b <;> exact absurd h (by decide))
theorem VR.str_inv (hv : VR g w v) (h : w % 16 = 3) : ∃ st l, w = eStr st l ∧ v = .string (strOf g.S st l) ∧ l < 16777216 ∧ st + l ≤ g.nS ∧ st < 4294967296 := by
  cases hv <;> first | exact ⟨_, _, rfl, rfl, ‹_›, ‹_›, ‹_›⟩ | (exfalso; (try simp only [eInt, ePtr, eSli, eMap, eFun, eIfc, eFn0, eSym] at h); omega) | (rename_i b; cases b <;> exact absurd h (by decide))
theorem VR.pnil_inv (hv : VR g w v) (h : w % 16 = 4) : v = .pointer none := by
  cases hv <;> first | rfl | (exfalso; (try simp only [eInt, eStr, ePtr, eSli, eMap, eFun, eIfc, eFn0, eSym] at h); omega) | (rename_i b; cases b <;> exact absurd h (by decide))
theorem VR.ptr_inv (hv : VR g w v) (h : w % 16 = 5) : ∃ s z o blk base room, w = ePtr s z o ∧ v = .pointer (some ⟨blk, base + o, none⟩) ∧
    s < 16777216 ∧ z < 16777216 ∧ g.rho s = .cells blk base z room ∧ o ≤ z := by
  cases hv <;> first | exact ⟨_, _, _, _, _, _, rfl, rfl, ‹_›, ‹_›, ‹_›, ‹_›⟩ | (exfalso; (try simp only [eInt, eStr, eSli, eMap, eFun, eIfc, eFn0, eSym] at h); omega) | (rename_i b; cases b <;> exact absurd h (by decide))
theorem VR.snil_inv (hv : VR g w v) (h : w % 16 = 6) : v = .slice none 0 0 := by
  cases hv <;> first | rfl | (exfalso; (try simp only [eInt, eStr, ePtr, eSli, eMap, eFun, eIfc, eFn0, eSym] at h); omega) | (rename_i b; cases b <;> exact absurd h (by decide))
theorem VR.sli_inv (hv : VR g w v) (h : w % 16 = 7) : ∃ s z l e o blk base room cap a, w = eSli s z l e o ∧ v = .slice (some a) l cap ∧
    s < 16777216 ∧ z < 16777216 ∧ l < 16777216 ∧ e < 256 ∧ g.rho s = .cells blk base z room ∧ o + l * e ≤ z ∧ l ≤ cap ∧ (cap = 0 ∨ (a = ⟨blk, base + o, none⟩ ∧ o + cap * e ≤ room)) := by
  cases hv <;> first | exact ⟨_, _, _, _, _, _, _, _, _, _, rfl, rfl, ‹_›, ‹_›, ‹_›, ‹_›, ‹_›, ‹_›, ‹_›, ‹_›⟩ | (exfalso; (try simp only [eInt, eStr, ePtr, eMap, eFun, eIfc, eFn0, eSym] at h); omega) | (rename_i b; cases b <;> exact absurd h (by decide))
theorem VR.map_inv (hv : VR g w v) (h : w % 16 = 8) : ∃ s blk, w = eMap s ∧ v = .map (some blk) ∧ s < 16777216 ∧ g.rho s = .map blk := by
  cases hv <;> first | exact ⟨_, _, rfl, rfl, ‹_›, ‹_›⟩ | (exfalso; (try simp only [eInt, eStr, ePtr, eSli, eFun, eIfc, eFn0, eSym] at h); omega) | (rename_i b; cases b <;> exact absurd h (by decide))
theorem VR.semp_inv (hv : VR g w v) (h : w = 57) : ∃ a, v = .slice (some a) 0 0 := by
  cases hv <;> first | exact ⟨_, rfl⟩ | (exfalso; (try simp only [eInt, eStr, ePtr, eSli, eMap, eFun, eIfc, eFn0, eSym] at h); omega) | (rename_i b; cases b <;> exact absurd h (by decide))
theorem VR.mnil_inv (hv : VR g w v) (h : w = 9) : v = .map none := by
  cases hv <;> first | rfl | (exfalso; (try simp only [eInt, eStr, ePtr, eSli, eMap, eFun, eIfc, eFn0, eSym] at h); omega) | (rename_i b; cases b <;> exact absurd h (by decide))
theorem VR.fnil_inv (hv : VR g w v) (h : w = 25) : v = .nilFunc := by
  cases hv <;> first | rfl | (exfalso; (try simp only [eInt, eStr, ePtr, eSli, eMap, eFun, eIfc, eFn0, eSym] at h); omega) | (rename_i b; cases b <;> exact absurd h (by decide))
theorem VR.inil_inv (hv : VR g w v) (h : w = 41) : v = .nilIface := by
  cases hv <;> first | rfl | (exfalso; (try simp only [eInt, eStr, ePtr, eSli, eMap, eFun, eIfc, eFn0, eSym] at h); omega) | (rename_i b; cases b <;> exact absurd h (by decide))
theorem VR.func_inv (hv : VR g w v) (h : w % 16 = 10) : ∃ f m n s ws first cap, w = eFun f m n s ∧ v = .func (.func f) first cap ∧ f < 65536 ∧ m < 256 ∧ n < 256 ∧ s < 16777216 ∧
    g.rho s = .row ws ∧ first.size = m ∧ cap.size = n ∧ ws.length = m + n ∧ (∀ i, i < m → VR g (ws.getD i 0) (first.getD i undef)) ∧
      (∀ i, i < n → VR g (ws.getD (m + i) 0) (cap.getD i undef)) := by
  cases hv <;> first | exact ⟨_, _, _, _, _, _, _, rfl, rfl, ‹_›, ‹_›, ‹_›, ‹_›, ‹_›, ‹_›, ‹_›, ‹_›, ‹_›, ‹_›⟩ | (exfalso; (try simp only [eInt, eStr, ePtr, eSli, eMap, eIfc, eFn0, eSym] at h); omega) | (rename_i b; cases b <;> exact absurd h (by decide))
theorem VR.ifc_inv (hv : VR g w v) (h : w % 16 = 11) : ∃ t s u x, w = eIfc t s ∧ v = .iface t x ∧ t < 1048576 ∧ s < 16777216 ∧ g.rho s = .row [u] ∧ VR g u x ∧ u ≠ 0 := by
  cases hv <;> first | exact ⟨_, _, _, _, rfl, rfl, ‹_›, ‹_›, ‹_›, ‹_›, ‹_›⟩ | (exfalso; (try simp only [eInt, eStr, ePtr, eSli, eMap, eFun, eFn0, eSym] at h); omega) | (rename_i b; cases b <;> exact absurd h (by decide))
theorem VR.one (hv : VR g w v) : v.oneCell' = true := by
  cases hv <;> first | assumption | rfl
theorem VR.fn0_inv (hv : VR g w v) (h : w % 16 = 15) : ∃ f, w = eFn0 f ∧ v = .func (.func f) #[] #[] ∧ f < 65536 := by
  cases hv <;> first | exact ⟨_, rfl, rfl, ‹_›⟩ | (exfalso; (try simp only [eInt, eStr, ePtr, eSli, eMap, eFun, eIfc, eSym] at h); omega) | (rename_i b; cases b <;> exact absurd h (by decide))
theorem VR.sym_inv (hv : VR g w v) (h : w % 16 = 0) (h0 : w ≠ 0) : ∃ j, w = eSym j ∧ v = g.rh j ∧ j < 16777216 ∧ (g.rh j).oneCell' = true := by
  cases hv <;> first | exact ⟨_, rfl, rfl, ‹_›, ‹_›⟩ | (exfalso; (try simp only [eInt, eStr, ePtr, eSli, eMap, eFun, eIfc, eFn0] at h); omega) | (rename_i b; cases b <;> exact absurd h (by decide)) | (exact absurd rfl h0)
theorem VR.tag (hv : VR g w v) : w % 16 ≠ 12 ∧ w % 16 ≠ 13 ∧ w % 16 ≠ 14 := by
  cases hv <;> first | ((try simp only [eInt, eStr, ePtr, eSli, eMap, eFun, eIfc, eFn0, eSym]); omega) | (rename_i b; cases b <;> decide)
end

/-- A slot: a cell's word, or a row of such in the frame's rows. -/
inductive TR (g : Gh) (R nR : Nat) : Nat → Value → Prop
  | unk (v : Value) : TR g R nR 0 v
  | und : TR g R nR 14 undef
  | cell (w : Nat) (v : Value) (h : VR g w v) : TR g R nR w v
  | agg (st n : Nat) (vs : Array Value) (hn : n < 16777216) (hs : st < 4294967296) (h : st + n ≤ nR) (hv : vs.size = n) (hc : ∀ i, i < n → VR g (gt R (st + i)) (vs.getD i undef)) :
      TR g R nR (eAgg st n) (.agg vs)
  | tup (st n : Nat) (vs : Array Value) (hn : n < 16777216) (hs : st < 4294967296) (h : st + n ≤ nR) (hv : vs.size = n) (hc : ∀ i, i < n → TR g R nR (gt R (st + i)) (vs.getD i undef)) :
      TR g R nR (eTup st n) (.tuple vs)

/-- Rows that go on. -/
def Ext (R nR R' nR' : Nat) : Prop := nR ≤ nR' ∧ ∀ i, i < nR → gt R' i = gt R i
theorem Ext.refl (R nR : Nat) : Ext R nR R nR := ⟨Nat.le_refl _, fun _ _ => rfl⟩
theorem Ext.trans {A a B b C c : Nat} (h : Ext A a B b) (k : Ext B b C c) : Ext A a C c :=
  ⟨Nat.le_trans h.1 k.1, fun i hi => (k.2 i (Nat.lt_of_lt_of_le hi h.1)).trans (h.2 i hi)⟩
theorem Ext.ad {R nR : Nat} (n c : Nat) (h : R < 2 ^ (128 * nR)) : Ext R nR (ad R nR c) (nR + n) :=
  ⟨by omega, fun i hi => by rw [gt_ad _ _ h, if_pos hi]⟩

theorem TR.mono {g g' : Gh} {R nR R' nR' : Nat} (h : g.le g') (hr : Ext R nR R' nR') {w : Nat} {v : Value} (hv : TR g R nR w v) : TR g' R' nR' w v := by
  induction hv with
  | unk v => exact .unk v
  | und => exact .und
  | cell w v hv => exact .cell w v (hv.mono h)
  | agg st n vs hn hs hb hv hc => exact .agg st n vs hn hs (Nat.le_trans hb hr.1) hv fun i hi => by rw [hr.2 _ (by omega)]; exact (hc i hi).mono h
  | tup st n vs hn hs hb hv _ ih => exact .tup st n vs hn hs (Nat.le_trans hb hr.1) hv fun i hi => by rw [hr.2 _ (by omega)]; exact ih i hi

theorem TR.lt {g : Gh} {R nR w : Nat} {v : Value} (hv : TR g R nR w v) : w < 2 ^ 128 := by
  cases hv with
  | unk => decide
  | und => decide
  | cell _ _ h => exact h.lt
  | agg st n _ hn hs => unfold eAgg; omega
  | tup st n _ hn hs => unfold eTup; omega

theorem TR.cell_inv {g : Gh} {R nR w : Nat} {v : Value} (hv : TR g R nR w v) (h : w % 16 ≠ 12) (h1 : w % 16 ≠ 13) (h2 : w % 16 ≠ 14) (h0 : w ≠ 0) : VR g w v := by
  cases hv with
  | unk => exact absurd rfl h0
  | und => exact absurd rfl h2
  | cell _ _ h => exact h
  | agg st n => exfalso; simp only [eAgg] at h; omega
  | tup st n => exfalso; simp only [eTup] at h1; omega

theorem TR.agg_inv {g : Gh} {R nR w : Nat} {v : Value} (hv : TR g R nR w v) (h : w % 16 = 12) : ∃ st n vs, w = eAgg st n ∧ v = .agg vs ∧ n < 16777216 ∧ st < 4294967296 ∧ st + n ≤ nR ∧ vs.size = n ∧
    ∀ i, i < n → VR g (gt R (st + i)) (vs.getD i undef) := by
  cases hv with
  | unk => omega
  | und => omega
  | cell _ _ hv => have := hv.tag; omega
  | agg st n vs hn hs hb hv hc => exact ⟨st, n, vs, rfl, rfl, hn, hs, hb, hv, hc⟩
  | tup st n => exfalso; simp only [eTup] at h; omega

theorem TR.tup_inv {g : Gh} {R nR w : Nat} {v : Value} (hv : TR g R nR w v) (h : w % 16 = 13) : ∃ st n vs, w = eTup st n ∧ v = .tuple vs ∧ n < 16777216 ∧ st < 4294967296 ∧ st + n ≤ nR ∧ vs.size = n ∧
    ∀ i, i < n → TR g R nR (gt R (st + i)) (vs.getD i undef) := by
  cases hv with
  | unk => omega
  | und => omega
  | cell _ _ hv => have := hv.tag; omega
  | agg st n => exfalso; simp only [eAgg] at h; omega
  | tup st n vs hn hs hb hv hc => exact ⟨st, n, vs, rfl, rfl, hn, hs, hb, hv, hc⟩

end Ev
end Go.Proofs.YtgdibfnpkcdiiaaGreatDoor

/- The memory under the rows of words: the relation HR, the frame Fr, and what an allocation, a load, a store, an append do to them. No condition. -/
namespace Go.Proofs.YtgdibfnpkcdiiaaGreatDoor
namespace Ev

structure St where
  T : Nat
  D : List (Nat × List Nat)
  R : Nat
  nR : Nat
  M : Nat
  nM : Nat
  S : Nat
  nS : Nat

@[reducible] noncomputable def setM (M nM : Nat) (st : St) : St := St.rec (fun T D R nR _ _ S nS => ⟨T, D, R, nR, M, nM, S, nS⟩) st
@[reducible] noncomputable def setR (R nR : Nat) (st : St) : St := St.rec (fun T D _ _ M nM S nS => ⟨T, D, R, nR, M, nM, S, nS⟩) st
@[reducible] noncomputable def setS (S nS : Nat) (st : St) : St := St.rec (fun T D R nR M nM _ _ => ⟨T, D, R, nR, M, nM, S, nS⟩) st
@[reducible] noncomputable def setD (D : List (Nat × List Nat)) (st : St) : St := St.rec (fun T _ R nR M nM S nS => ⟨T, D, R, nR, M, nM, S, nS⟩) st

def Info.size : Info → Nat
  | .free => 0
  | .cells _ _ z _ => z
  | .row ws => ws.length
  | .map _ => 1

def eMp (c nv s : Nat) : Nat := 14 + 16 * c + 268435456 * nv + 68719476736 * s

/-- A value that stands in so many words from a place on (0: one word, no row). -/
def ValR (g : Gh) (ws : List Nat) (b nv : Nat) (v : Value) : Prop :=
  if nv = 0 then VR g (ws.getD b 0) v else ∃ vs : Array Value, v = .agg vs ∧ vs.size = nv ∧ ∀ i, i < nv → VR g (ws.getD (b + i) 0) (vs.getD i undef)

def stride (nv : Nat) : Nat := if nv = 0 then 2 else nv + 1

def MapR (g : Gh) (m : Nat) (o : Obj) : Prop :=
  ∃ c nv s ws es clock, m = eMp c nv s ∧ c < 16777216 ∧ nv < 256 ∧ s < 16777216 ∧ g.rho s = .row ws ∧ o = .map es clock ∧ es.size = c ∧ ws.length = c * stride nv ∧
    ∀ i (h : i < es.size), VR g (ws.getD (i * stride nv) 0) es[i].key ∧ ValR g ws (i * stride nv + 1) nv es[i].val

/-- A block that an allocation stands for. -/
def Own (g : Gh) (b : Nat) : Prop := (∃ s base z room, g.rho s = .cells b base z room) ∨ ∃ s, g.rho s = .map b

def Live (M s z : Nat) : Prop := ∃ o, o < z ∧ gt M (s + o) ≠ 0

def Thaw (fr : Nat × Nat) (n : Nat) : Prop := fr.1 = fr.2 ∨ n ≤ fr.1

structure CellR (g : Gh) (M : Nat) (w : World) (s blk base z room : Nat) (c : Array Value) (e : TypeId) (fr : Nat × Nat) : Prop where
  heap : w.heap[blk]? = some (.cells c e fr)
  size : c.size = base + room
  room : z ≤ room
  one : ∀ i, i < c.size → (c.getD i undef).oneCell' = true
  vr : ∀ o, o < z → VR g (gt M (s + o)) (c.getD (base + o) undef)
  thaw : Live M s z → Thaw fr c.size

structure HR (g : Gh) (st : St) (w : World) : Prop where
  S : st.S = g.S
  nS : st.nS = g.nS
  Slt : st.S < 2 ^ (8 * st.nS)
  Mlt : st.M < 2 ^ (128 * st.nM)
  Rlt : st.R < 2 ^ (128 * st.nR)
  top : ∀ s, g.rho s ≠ .free → s + (g.rho s).size < st.nM
  disj : ∀ s s', s < s' → g.rho s ≠ .free → g.rho s' ≠ .free → s + (g.rho s).size < s'
  cells : ∀ s blk base z room, g.rho s = .cells blk base z room → ∃ c e fr, CellR g st.M w s blk base z room c e fr
  rows : ∀ s ws, g.rho s = .row ws → ∀ i, i < ws.length → gt st.M (s + i) = ws.getD i 0
  maps : ∀ s blk, g.rho s = .map blk → ∃ o, w.heap[blk]? = some o ∧ MapR g (gt st.M s) o
  inj : ∀ s s' blk base z room base' z' room', s ≠ s' → g.rho s = .cells blk base z room → g.rho s' = .cells blk base' z' room' → Live st.M s z → ¬ Live st.M s' z'
  minj : ∀ s s' blk, g.rho s = .map blk → g.rho s' = .map blk → s = s'

structure Fr (g : Gh) (w : World) (g' : Gh) (w' : World) : Prop where
  os : w'.os = w.os
  tape : w'.tape = w.tape
  output : w'.output = w.output
  size : w.heap.size ≤ w'.heap.size
  le : g.le g'
  keep : ∀ b, b < w.heap.size → ¬ Own g b → w'.heap[b]? = w.heap[b]?
  own : ∀ b, b < w.heap.size → Own g' b → Own g b

theorem Fr.refl (g : Gh) (w : World) : Fr g w g w := ⟨rfl, rfl, rfl, Nat.le_refl _, Gh.le.refl _, fun _ _ _ => rfl, fun _ _ h => h⟩
theorem Fr.trans {g g1 g2 : Gh} {w w1 w2 : World} (h : Fr g w g1 w1) (k : Fr g1 w1 g2 w2) : Fr g w g2 w2 :=
  ⟨k.os.trans h.os, k.tape.trans h.tape, k.output.trans h.output, Nat.le_trans h.size k.size, h.le.trans k.le,
    fun b hb ho => (k.keep b (Nat.lt_of_lt_of_le hb h.size) (fun o => ho (h.own b hb o))).trans (h.keep b hb ho),
    fun b hb ho => h.own b hb (k.own b (Nat.lt_of_lt_of_le hb h.size) ho)⟩

/-- Only the heap counts. -/
theorem CellR.congr {g : Gh} {M : Nat} {w w' : World} (e : w'.heap = w.heap) {s blk base z room : Nat} {c : Array Value} {t : TypeId} {fr : Nat × Nat}
    (h : CellR g M w s blk base z room c t fr) : CellR g M w' s blk base z room c t fr := ⟨by rw [e]; exact h.heap, h.size, h.room, h.one, h.vr, h.thaw⟩
theorem HR.congr {g : Gh} {st : St} {w w' : World} (e : w'.heap = w.heap) (h : HR g st w) : HR g st w' :=
  ⟨h.S, h.nS, h.Slt, h.Mlt, h.Rlt, h.top, h.disj, fun s blk base z room hs => let ⟨c, t, fr, hc⟩ := h.cells s blk base z room hs; ⟨c, t, fr, hc.congr e⟩,
    h.rows, fun s blk hs => by rw [e]; exact h.maps s blk hs, h.inj, h.minj⟩
theorem HR.drew {g : Gh} {st : St} {w : World} (h : HR g st w) (n : Nat) : HR g st { w with drawn := n } := HR.congr (w := w) rfl h
theorem Fr.drew (g : Gh) (w : World) (n : Nat) : Fr g w g { w with drawn := n } := ⟨rfl, rfl, rfl, Nat.le_refl _, Gh.le.refl _, fun _ _ _ => rfl, fun _ _ h => h⟩

/-- The frame's own rows may change. -/
theorem HR.frame {g : Gh} {st : St} {w : World} (h : HR g st w) (T : Nat) (D : List (Nat × List Nat)) {R nR : Nat} (hR : R < 2 ^ (128 * nR)) : HR g { st with T := T, D := D, R := R, nR := nR } w :=
  ⟨h.S, h.nS, h.Slt, h.Mlt, hR, h.top, h.disj, h.cells, h.rows, h.maps, h.inj, h.minj⟩

theorem own_lt {g : Gh} {st : St} {w : World} (h : HR g st w) {b : Nat} (o : Own g b) : b < w.heap.size := by
  rcases o with ⟨s, base, z, room, hs⟩ | ⟨s, hs⟩
  · obtain ⟨c, e, fr, hc⟩ := h.cells s b base z room hs
    exact (Array.getElem?_eq_some_iff.1 hc.heap).1
  · obtain ⟨o, ho, _⟩ := h.maps s b hs
    exact (Array.getElem?_eq_some_iff.1 ho).1

theorem rho_top {g : Gh} {st : St} {w : World} (h : HR g st w) {s : Nat} (hs : st.nM ≤ s) : g.rho s = .free := by
  cases hr : g.rho s with
  | free => rfl
  | _ => have := h.top s (by rw [hr]; simp); omega

theorem MapR.mono {g g' : Gh} (h : g.le g') {m : Nat} {o : Obj} (k : MapR g m o) : MapR g' m o := by
  obtain ⟨c, nv, s, ws, es, clock, h1, h2, h3, h4, h5, h6, h7, h8, h9⟩ := k
  refine ⟨c, nv, s, ws, es, clock, h1, h2, h3, h4, by rw [h.rho s (by rw [h5]; simp), h5], h6, h7, h8, fun i hi => ⟨(h9 i hi).1.mono h, ?_⟩⟩
  have := (h9 i hi).2
  unfold ValR at *
  split
  · rename_i h0; rw [if_pos h0] at this; exact this.mono h
  · rename_i h0; rw [if_neg h0] at this
    obtain ⟨vs, e1, e2, e3⟩ := this
    exact ⟨vs, e1, e2, fun j hj => (e3 j hj).mono h⟩

/-- One allocation more. -/
def Gh.put (g : Gh) (s : Nat) (i : Info) : Gh := { g with rho := fun t => if t = s then i else g.rho t }
theorem Gh.put_rho (g : Gh) (s : Nat) (i : Info) (t : Nat) : (g.put s i).rho t = if t = s then i else g.rho t := rfl
theorem Gh.put_le {g : Gh} {s : Nat} (i : Info) (h : g.rho s = .free) : g.le (g.put s i) :=
  ⟨fun t ht => by rw [Gh.put_rho, if_neg (fun (e : t = s) => ht (by rw [e]; exact h))], Nat.le_refl _, fun _ _ => rfl, rfl⟩

theorem vr_zero_one {g : Gh} {v : Value} (h : v.oneCell' = true) : VR g 0 v := .unk v h

theorem live_ad {M n s z : Nat} (c : Nat) (hM : M < 2 ^ (128 * n)) (h : s + z ≤ n) : Live (ad M n c) s z ↔ Live M s z := by
  constructor <;> rintro ⟨o, ho, hg⟩ <;> refine ⟨o, ho, ?_⟩
  · rwa [gt_ad _ _ hM, if_pos (by omega)] at hg
  · rwa [gt_ad _ _ hM, if_pos (by omega)]

section
variable {g : Gh} {st : St} {w : World}

/-- What all of the laws below come to: the memory is laid anew behind nM, or in a place, the ghost being the old one, or with one allocation more. -/
theorem HR.grown (h : HR g st w) {i : Info} {cw : Nat} (hcw : cw < 2 ^ (128 * (i.size + 1))) {w' : World} (_hi : i ≠ .free)
    (hold : ∀ s blk base z room c e fr, g.rho s = .cells blk base z room → CellR g st.M w s blk base z room c e fr → ∃ c' e' fr', w'.heap[blk]? = some (.cells c' e' fr') ∧ c'.size = c.size ∧ (∀ i, i < c'.size → (c'.getD i undef).oneCell' = true) ∧
      (Live st.M s z → c' = c ∧ fr' = fr))
    (hmap : ∀ s blk, g.rho s = .map blk → w'.heap[blk]? = w.heap[blk]?)
    (hnew : ∀ blk base z room, i = .cells blk base z room → (∃ c e fr, CellR (g.put st.nM i) (ad st.M st.nM cw) w' st.nM blk base z room c e fr) ∧ ∀ s base' z' room', g.rho s = .cells blk base' z' room' → ¬ Live st.M s z')
    (hrow : ∀ ws, i = .row ws → ∀ j, j < ws.length → gt cw j = ws.getD j 0)
    (hm : ∀ blk, i = .map blk → (∃ o, w'.heap[blk]? = some o ∧ MapR (g.put st.nM i) (gt cw 0) o) ∧ ∀ s, g.rho s ≠ .map blk) :
    HR (g.put st.nM i) { st with M := ad st.M st.nM cw, nM := st.nM + i.size + 1 } w' := by
  have hfree : g.rho st.nM = .free := rho_top h (Nat.le_refl _)
  have hle := Gh.put_le i hfree
  have hne : ∀ s, g.rho s ≠ .free → s ≠ st.nM := fun s hs e => hs (e ▸ hfree)
  have hold' : ∀ s, g.rho s ≠ .free → ∀ o, o ≤ (g.rho s).size → gt (ad st.M st.nM cw) (s + o) = gt st.M (s + o) := fun s hs o ho => by
    have := h.top s hs
    rw [gt_ad _ _ h.Mlt, if_pos (by omega)]
  refine ⟨h.S, h.nS, h.Slt, by have := ad_lt h.Mlt hcw; rwa [← Nat.add_assoc] at this, h.Rlt, ?_, ?_, ?_, ?_, ?_, ?_, ?_⟩
  · intro s hs
    rw [Gh.put_rho] at hs ⊢
    split
    · rename_i e; subst e; dsimp only; omega
    · rename_i e; rw [if_neg e] at hs; have := h.top s hs; dsimp only; omega
  · intro s s' hlt hs hs'
    rw [Gh.put_rho] at hs hs' ⊢
    by_cases e : s = st.nM
    · subst e
      rw [if_neg (by omega)] at hs'
      have := h.top s' hs'; omega
    · rw [if_neg e] at hs ⊢
      by_cases e' : s' = st.nM
      · subst e'; exact h.top s hs
      · rw [if_neg e'] at hs'; exact h.disj s s' hlt hs hs'
  · intro s blk base z room hs
    rw [Gh.put_rho] at hs
    by_cases e : s = st.nM
    · subst e; rw [if_pos rfl] at hs; exact (hnew _ _ _ _ hs).1
    · rw [if_neg e] at hs
      obtain ⟨c, t, fr, hc⟩ := h.cells s blk base z room hs
      obtain ⟨c', t', fr', h1, h2, h3, h4⟩ := hold s blk base z room c t fr hs hc
      have ht := h.top s (by rw [hs]; simp)
      rw [hs] at ht
      refine ⟨c', t', fr', h1, by rw [h2, hc.size], hc.room, h3, fun o ho => ?_, fun hl => ?_⟩
      · rw [hold' s (by rw [hs]; simp) o (by rw [hs]; exact Nat.le_of_lt ho)]
        by_cases hz : gt st.M (s + o) = 0
        · rw [hz]; exact .unk _ (h3 _ (by rw [h2, hc.size]; have := hc.room; omega))
        · rw [(h4 ⟨o, ho, hz⟩).1]; exact (hc.vr o ho).mono hle
      · have hl' := (live_ad cw h.Mlt (Nat.le_of_lt ht)).1 hl
        rw [(h4 hl').1, (h4 hl').2]; exact hc.thaw hl'
  · intro s ws hs j hj
    rw [Gh.put_rho] at hs
    by_cases e : s = st.nM
    · subst e; rw [if_pos rfl] at hs
      rw [gt_ad _ _ h.Mlt, if_neg (by omega), show st.nM + j - st.nM = j by omega]
      exact hrow ws hs j hj
    · rw [if_neg e] at hs
      rw [hold' s (by rw [hs]; simp) j (by rw [hs]; exact Nat.le_of_lt hj)]
      exact h.rows s ws hs j hj
  · intro s blk hs
    rw [Gh.put_rho] at hs
    by_cases e : s = st.nM
    · subst e; rw [if_pos rfl] at hs
      rw [gt_ad _ _ h.Mlt, if_neg (by omega), Nat.sub_self]
      exact (hm blk hs).1
    · rw [if_neg e] at hs
      obtain ⟨o, ho, hmr⟩ := h.maps s blk hs
      refine ⟨o, by rw [hmap s blk hs]; exact ho, ?_⟩
      have := hold' s (by rw [hs]; simp) 0 (by omega)
      rw [Nat.add_zero] at this
      rw [this]; exact hmr.mono hle
  · intro s s' blk base z room base' z' room' hne' hs hs' hl hl'
    rw [Gh.put_rho] at hs hs'
    by_cases e : s = st.nM
    · subst e
      rw [if_neg (Ne.symm hne')] at hs'
      rw [if_pos rfl] at hs
      have ht := h.top s' (by rw [hs']; simp)
      rw [hs'] at ht
      exact (hnew _ _ _ _ hs).2 _ _ _ _ hs' ((live_ad cw h.Mlt (Nat.le_of_lt ht)).1 hl')
    · rw [if_neg e] at hs
      have ht := h.top s (by rw [hs]; simp)
      rw [hs] at ht
      have l1 := (live_ad cw h.Mlt (Nat.le_of_lt ht)).1 hl
      by_cases e' : s' = st.nM
      · subst e'
        rw [if_pos rfl] at hs'
        exact (hnew _ _ _ _ hs').2 _ _ _ _ hs l1
      · rw [if_neg e'] at hs'
        have ht' := h.top s' (by rw [hs']; simp)
        rw [hs'] at ht'
        exact h.inj s s' blk base z room base' z' room' hne' hs hs' l1 ((live_ad cw h.Mlt (Nat.le_of_lt ht')).1 hl')
  · intro s s' blk hs hs'
    rw [Gh.put_rho] at hs hs'
    by_cases e : s = st.nM
    · subst e
      rw [if_pos rfl] at hs
      by_cases e' : s' = st.nM
      · exact e'.symm
      · rw [if_neg e'] at hs'; exact absurd hs' ((hm blk hs).2 s')
    · rw [if_neg e] at hs
      by_cases e' : s' = st.nM
      · subst e'; rw [if_pos rfl] at hs'; exact absurd hs ((hm blk hs').2 s)
      · rw [if_neg e'] at hs'; exact h.minj s s' blk hs hs'

theorem HR.load (h : HR g st w) {s blk base z room o : Nat} (hr : g.rho s = .cells blk base z room) (ho : o < z) : ∃ v, w.cell? ⟨blk, base + o, none⟩ = some v ∧ VR g (gt st.M (s + o)) v := by
  obtain ⟨c, t, fr, hc⟩ := h.cells s blk base z room hr
  have hlt : base + o < c.size := by have := hc.size; have := hc.room; omega
  refine ⟨c[base + o], by simp [World.cell?, hc.heap, hlt], ?_⟩
  have := hc.vr o ho
  rwa [Array.getD_eq_getD_getElem?, Array.getElem?_eq_getElem hlt, Option.getD_some] at this
end

end Ev
end Go.Proofs.YtgdibfnpkcdiiaaGreatDoor

/- The memory's moves: an allocation, a row that stays, a store, cells forgotten, an append in place, bytes put into the pool. No condition. -/
namespace Go.Proofs.YtgdibfnpkcdiiaaGreatDoor
namespace Ev

theorem push_old {w : World} {o x : Obj} {b : Nat} (h : w.heap[b]? = some x) : (w.alloc o).heap[b]? = some x := by
  have hb := (Array.getElem?_eq_some_iff.1 h).1
  show (w.heap.push o)[b]? = some x
  rw [Array.getElem?_push, if_neg (by omega)]; exact h
theorem push_new (w : World) (o : Obj) : (w.alloc o).heap[w.heap.size]? = some o := by
  show (w.heap.push o)[w.heap.size]? = some o
  simp

theorem cw_more {cw n : Nat} (h : cw < 2 ^ (128 * n)) : cw < 2 ^ (128 * (n + 1)) := Nat.lt_of_lt_of_le h (Nat.pow_le_pow_right (by omega) (by omega))

section
variable {g : Gh} {st : St} {w : World}

theorem Fr.alloc (h : HR g st w) (o : Obj) {i : Info} (hi : ∀ b base z room, i = .cells b base z room → b = w.heap.size) (hm : ∀ b, i = .map b → b = w.heap.size) : Fr g w (g.put st.nM i) (w.alloc o) := by
  refine ⟨rfl, rfl, rfl, by show _ ≤ (w.heap.push o).size; simp, Gh.put_le i (rho_top h (Nat.le_refl _)), fun b hb _ => ?_, fun b hb ho => ?_⟩
  · rw [Array.getElem?_eq_getElem hb]; exact push_old (Array.getElem?_eq_getElem hb)
  · rcases ho with ⟨s, base, z, room, hs⟩ | ⟨s, hs⟩
    · rw [Gh.put_rho] at hs; split at hs
      · have := hi _ _ _ _ hs; omega
      · exact .inl ⟨s, base, z, room, hs⟩
    · rw [Gh.put_rho] at hs; split at hs
      · have := hm _ hs; omega
      · exact .inr ⟨s, hs⟩

theorem HR.alloc (h : HR g st w) (c : Array Value) (e : TypeId) (fr : Nat × Nat) {n cw : Nat} (hn : n ≤ c.size) (hcw : cw < 2 ^ (128 * n)) (hv : ∀ i, i < n → VR g (gt cw i) (c.getD i undef))
    (one : ∀ i, i < c.size → (c.getD i undef).oneCell' = true) (thaw : Thaw fr c.size) :
    HR (g.put st.nM (.cells w.heap.size 0 n c.size)) { st with M := ad st.M st.nM cw, nM := st.nM + n + 1 } (w.alloc (.cells c e fr)) ∧
      Fr g w (g.put st.nM (.cells w.heap.size 0 n c.size)) (w.alloc (.cells c e fr)) := by
  refine ⟨?_, Fr.alloc h _ (fun b base z room hb => by injection hb with h1; exact h1.symm) (fun b hb => by cases hb)⟩
  refine HR.grown h (i := .cells w.heap.size 0 n c.size) (cw_more hcw) (by simp) ?_ ?_ ?_ (fun ws hw => by cases hw) (fun b hb => by cases hb)
  · intro s blk base z room c' e' fr' _ hc
    exact ⟨c', e', fr', push_old hc.heap, rfl, hc.one, fun _ => ⟨rfl, rfl⟩⟩
  · intro s blk hs
    obtain ⟨o, ho, _⟩ := h.maps s blk hs
    rw [push_old ho, ho]
  · intro blk base z room hi
    injection hi with h1 h2 h3 h4
    subst h1; subst h2; subst h3; subst h4
    refine ⟨⟨c, e, fr, push_new _ _, by omega, hn, one, fun o ho => ?_, fun _ => thaw⟩, fun s base' z' room' hs => ?_⟩
    · rw [gt_ad _ _ h.Mlt, if_neg (by omega), show st.nM + o - st.nM = o by omega, Nat.zero_add]
      exact (hv o ho).mono (Gh.put_le _ (rho_top h (Nat.le_refl _)))
    · exact absurd (own_lt h (.inl ⟨s, base', z', room', hs⟩)) (by omega)

/-- A block that no allocation stands for. -/
theorem HR.push (h : HR g st w) (o : Obj) : HR g st (w.alloc o) ∧ Fr g w g (w.alloc o) := by
  refine ⟨⟨h.S, h.nS, h.Slt, h.Mlt, h.Rlt, h.top, h.disj, fun s blk base z room hs => ?_, h.rows, fun s blk hs => ?_, h.inj, h.minj⟩, ⟨rfl, rfl, rfl, by show _ ≤ (w.heap.push o).size; simp, Gh.le.refl _, fun b hb _ => ?_, fun _ _ h => h⟩⟩
  · obtain ⟨c, e, fr, hc⟩ := h.cells s blk base z room hs
    exact ⟨c, e, fr, push_old hc.heap, hc.size, hc.room, hc.one, hc.vr, hc.thaw⟩
  · obtain ⟨x, hx, hm⟩ := h.maps s blk hs
    exact ⟨x, push_old hx, hm⟩
  · rw [Array.getElem?_eq_getElem hb]; exact push_old (Array.getElem?_eq_getElem hb)

theorem HR.row (h : HR g st w) (ws : List Nat) {cw : Nat} (hcw : cw < 2 ^ (128 * ws.length)) (hv : ∀ i, i < ws.length → gt cw i = ws.getD i 0) :
    HR (g.put st.nM (.row ws)) { st with M := ad st.M st.nM cw, nM := st.nM + ws.length + 1 } w ∧ Fr g w (g.put st.nM (.row ws)) w := by
  refine ⟨HR.grown h (i := .row ws) (cw_more hcw) (by simp) ?_ (fun _ _ _ => rfl) (fun _ _ _ _ hi => by cases hi) ?_ (fun b hb => by cases hb), ?_⟩
  · intro s blk base z room c' e' fr' _ hc
    exact ⟨c', e', fr', hc.heap, rfl, hc.one, fun _ => ⟨rfl, rfl⟩⟩
  · intro ws' hw; injection hw with hw; subst hw; exact hv
  · refine ⟨rfl, rfl, rfl, Nat.le_refl _, Gh.put_le _ (rho_top h (Nat.le_refl _)), fun _ _ _ => rfl, fun b _ ho => ?_⟩
    rcases ho with ⟨s, base, z, room, hs⟩ | ⟨s, hs⟩
    · rw [Gh.put_rho] at hs; split at hs
      · cases hs
      · exact .inl ⟨s, base, z, room, hs⟩
    · rw [Gh.put_rho] at hs; split at hs
      · cases hs
      · exact .inr ⟨s, hs⟩

/-- A place's cells are forgotten. -/
theorem HR.kill (h : HR g st w) {s blk base z room : Nat} (hr : g.rho s = .cells blk base z room) : HR g { st with M := up st.M s z 0 } w := by
  have hz : (0 : Nat) < 2 ^ (128 * z) := Nat.pow_pos (by omega)
  have ht := h.top s (by rw [hr]; simp)
  rw [hr] at ht
  have far : ∀ s', s' ≠ s → g.rho s' ≠ .free → ∀ o, o ≤ (g.rho s').size → gt (up st.M s z 0) (s' + o) = gt st.M (s' + o) := fun s' hs' hf o ho => by
    rw [gt_up _ _ _ hz, if_neg]
    rcases Nat.lt_or_gt_of_ne hs' with hlt | hgt
    · have := h.disj s' s hlt hf (by rw [hr]; simp); omega
    · have := h.disj s s' hgt (by rw [hr]; simp) hf
      rw [hr] at this
      have e : (Info.cells blk base z room).size = z := rfl
      omega
  have dead : ∀ o, o < z → gt (up st.M s z 0) (s + o) = 0 := fun o ho => by rw [gt_up _ _ _ hz, if_pos (by omega), gt_zero]
  have live : ∀ s' z', s' ≠ s → (∃ b base r, g.rho s' = .cells b base z' r) → Live (up st.M s z 0) s' z' → Live st.M s' z' := by
    rintro s' z' hne ⟨b, ba, r, e⟩ ⟨o, ho, hg⟩
    refine ⟨o, ho, ?_⟩
    rwa [far s' hne (by rw [e]; simp) o (by rw [e]; exact Nat.le_of_lt ho)] at hg
  have nolive : ¬ Live (up st.M s z 0) s z := by rintro ⟨o, ho, hg⟩; exact hg (dead o ho)
  refine ⟨h.S, h.nS, h.Slt, up_lt h.Mlt (Nat.le_of_lt ht) hz, h.Rlt, h.top, h.disj, ?_, ?_, ?_, ?_, h.minj⟩
  · intro s' blk' base' z' room' hs'
    obtain ⟨c, e, fr, hc⟩ := h.cells s' blk' base' z' room' hs'
    refine ⟨c, e, fr, hc.heap, hc.size, hc.room, hc.one, fun o ho => ?_, fun hl => ?_⟩
    · by_cases es : s' = s
      · subst es
        rw [hr] at hs'; injection hs' with _ _ ez _
        rw [dead o (by omega)]
        exact .unk _ (hc.one _ (by have := hc.size; have := hc.room; omega))
      · rw [far s' es (by rw [hs']; simp) o (by rw [hs']; exact Nat.le_of_lt ho)]; exact hc.vr o ho
    · by_cases es : s' = s
      · subst es
        rw [hr] at hs'; injection hs' with _ _ ez _
        subst ez; exact absurd hl nolive
      · exact hc.thaw (live s' z' es ⟨_, _, _, hs'⟩ hl)
  · intro s' ws hs' i hi
    have es : s' ≠ s := by rintro rfl; rw [hr] at hs'; cases hs'
    show gt (up st.M s z 0) (s' + i) = _
    rw [far s' es (by rw [hs']; simp) i (by rw [hs']; exact Nat.le_of_lt hi)]
    exact h.rows s' ws hs' i hi
  · intro s' b hs'
    have es : s' ≠ s := by rintro rfl; rw [hr] at hs'; cases hs'
    have := far s' es (by rw [hs']; simp) 0 (Nat.zero_le _)
    rw [Nat.add_zero] at this
    show ∃ o, _ ∧ MapR g (gt (up st.M s z 0) s') o
    rw [this]; exact h.maps s' b hs'
  · intro s1 s2 b base1 z1 room1 base2 z2 room2 hne h1 h2 l1 l2
    have n1 : s1 ≠ s := by rintro rfl; rw [hr] at h1; injection h1 with _ _ e _; subst e; exact nolive l1
    have n2 : s2 ≠ s := by rintro rfl; rw [hr] at h2; injection h2 with _ _ e _; subst e; exact nolive l2
    exact h.inj s1 s2 b base1 z1 room1 base2 z2 room2 hne h1 h2 (live s1 z1 n1 ⟨_, _, _, h1⟩ l1) (live s2 z2 n2 ⟨_, _, _, h2⟩ l2)

/-- Cells with others from a place on. -/
def spl (c : Array Value) (o : Nat) (vs : List Value) : Array Value := (c.toList.take o ++ vs ++ c.toList.drop (o + vs.length)).toArray
theorem spl_size (c : Array Value) {o : Nat} {vs : List Value} (h : o + vs.length ≤ c.size) : (spl c o vs).size = c.size := by
  simp [spl]; omega
theorem spl_getD (c : Array Value) {o : Nat} {vs : List Value} (h : o + vs.length ≤ c.size) (i : Nat) : (spl c o vs).getD i undef = if o ≤ i ∧ i < o + vs.length then vs.getD (i - o) undef else c.getD i undef := by
  have hl : (c.toList.take o).length = o := by simp; omega
  rw [Array.getD_eq_getD_getElem?, spl, List.getElem?_toArray, List.append_assoc]
  by_cases h1 : i < o
  · rw [List.getElem?_append_left (by omega), if_neg (by omega), List.getElem?_take, if_pos h1, Array.getElem?_toList, ← Array.getD_eq_getD_getElem?]
  · rw [List.getElem?_append_right (by omega), hl]
    by_cases h2 : i < o + vs.length
    · rw [List.getElem?_append_left (by omega), if_pos (by omega), List.getD_eq_getElem?_getD]
    · rw [List.getElem?_append_right (by omega), if_neg (by omega), List.getElem?_drop, show o + vs.length + (i - o - vs.length) = i by omega, Array.getElem?_toList, ← Array.getD_eq_getD_getElem?]

theorem run_cells (P : Program) (b o : Nat) (t : TypeId) (fz : Nat × Nat) : ∀ (vs : List Value) (i : Nat) (cur : Array Value) (w : World), w.heap[b]? = some (.cells cur t fz) → Thaw fz cur.size →
    o + i + vs.length ≤ cur.size → (∀ v ∈ vs, v.oneCell' = true) → (storeCells ⟨b, o, none⟩ vs i).run P w = .ok () (w.setRow b (spl cur (o + i) vs))
  | [], i, cur, w, hg, _, _, _ => by
    simp only [spl, storeCells, List.append_nil, List.length_nil, Nat.add_zero, List.take_append_drop, Array.toArray_toList]
    rw [setRow_self w b cur t fz hg]
    rfl
  | v :: rest, i, cur, w, hg, hfz, hl, h1 => by
    have hi : o + i < cur.size := by simp at hl; omega
    have hadd : (⟨b, o, none⟩ : Addr).add i = ⟨b, o + i, none⟩ := by unfold Addr.add; split <;> simp_all
    have hcell : w.cell? ⟨b, o + i, none⟩ = some cur[o + i] := by simp [World.cell?, hg, hi]
    have hfro : w.frozen? ⟨b, o + i, none⟩ = false := by
      obtain ⟨lo, hi'⟩ := fz
      simp only [World.frozen?, hg]
      have hf' : lo = hi' ∨ cur.size ≤ lo := hfz
      cases hb : (decide (lo ≤ o + i) && decide (o + i < hi'))
      · rfl
      · simp at hb; omega
    have hst : (store ((⟨b, o, none⟩ : Addr).add i) v).run P w = .ok () (w.setRow b (cur.setIfInBounds (o + i) v)) := by
      rw [hadd, run_store P w _ v _ (h1 v (by simp)), hcell]
      simp [hfro, setCell_eq_setRow w b (o + i) cur t fz v hg]
    have ih := run_cells P b o t fz rest (i + 1) (cur.setIfInBounds (o + i) v) (w.setRow b (cur.setIfInBounds (o + i) v)) (setRow_heap w b cur _ t _ hg) (by simpa using hfz) (by simp at hl ⊢; omega) (fun x hx => h1 x (by simp [hx]))
    simp only [storeCells, Sem.run_bind, hst, Result.andThen_ok, ih, setRow_setRow]
    unfold spl
    congr 3
    have e := list_seg_step cur.toList (o + i) v rest (by simp at hl ⊢; omega)
    simpa [Array.toList_setIfInBounds, Nat.add_assoc] using e

/-- What a store of cells into a block does to an allocation that reads it. -/
theorem CellR.heap_setRow {M s blk base z room : Nat} {c : Array Value} {e : TypeId} {fr : Nat × Nat} (hc : CellR g M w s blk base z room c e fr) (c' : Array Value) :
    (w.setRow blk c').heap[blk]? = some (.cells c' e fr) := setRow_heap w blk c c' e fr hc.heap

theorem getD_mem {vs : List Value} {v : Value} (h : v ∈ vs) : ∃ i, i < vs.length ∧ vs.getD i undef = v := by
  obtain ⟨i, hi, e⟩ := List.getElem_of_mem h
  exact ⟨i, hi, by simp [hi, e]⟩

/-- A store of cells. -/
theorem HR.store (h : HR g st w) (P : Program) {s blk base z room o n cw : Nat} (hr : g.rho s = .cells blk base z room) (hl : Live st.M s z) (ho : o + n ≤ z) (hcw : cw < 2 ^ (128 * n)) (vs : List Value) (hn : vs.length = n)
    (hv : ∀ i, i < n → VR g (gt cw i) (vs.getD i undef)) :
    ∃ w', (storeCells ⟨blk, base + o, none⟩ vs).run P w = .ok () w' ∧ HR g { st with M := up st.M (s + o) n cw } w' ∧ Fr g w g w' := by
  obtain ⟨c, e, fr, hc⟩ := h.cells s blk base z room hr
  have hsz := hc.size
  have hrm := hc.room
  have hlen : base + o + vs.length ≤ c.size := by omega
  have hone : ∀ v ∈ vs, v.oneCell' = true := fun v hm => by
    obtain ⟨i, hi, e⟩ := getD_mem hm
    have := (hv i (by omega)).one
    rwa [e] at this
  have hrun := run_cells P blk (base + o) e fr vs 0 c w hc.heap (hc.thaw hl) (by omega) hone
  rw [Nat.add_zero] at hrun
  have ht := h.top s (by rw [hr]; simp)
  rw [hr] at ht
  have ez : (Info.cells blk base z room).size = z := rfl
  rw [ez] at ht
  have hs' := spl_size c hlen
  have far : ∀ s', s' ≠ s → g.rho s' ≠ .free → ∀ j, j ≤ (g.rho s').size → gt (up st.M (s + o) n cw) (s' + j) = gt st.M (s' + j) := fun s' hs' hf j hj => by
    rw [gt_up _ _ _ hcw, if_neg]
    rcases Nat.lt_or_gt_of_ne hs' with hlt | hgt
    · have := h.disj s' s hlt hf (by rw [hr]; simp); omega
    · have := h.disj s s' hgt (by rw [hr]; simp) hf
      rw [hr, ez] at this; omega
  have live : ∀ s' z' b base r, g.rho s' = .cells b base z' r → Live (up st.M (s + o) n cw) s' z' → Live st.M s' z' := by
    rintro s' z' b ba r e' hlv
    by_cases es : s' = s
    · subst es; rw [hr] at e'; injection e' with _ _ e2 _; subst e2; exact hl
    · obtain ⟨j, hj, hg⟩ := hlv
      exact ⟨j, hj, by rwa [far s' es (by rw [e']; simp) j (by rw [e']; exact Nat.le_of_lt hj)] at hg⟩
  refine ⟨_, hrun, ⟨h.S, h.nS, h.Slt, up_lt h.Mlt (show s + o + n ≤ st.nM by omega) hcw, h.Rlt, h.top, h.disj, ?_, ?_, ?_, ?_, h.minj⟩, ⟨rfl, rfl, rfl, by simp, Gh.le.refl _, fun b _ hb => ?_, fun _ _ h => h⟩⟩
  · intro s' blk' base' z' room' hs2
    obtain ⟨c2, e2, fr2, hc2⟩ := h.cells s' blk' base' z' room' hs2
    by_cases eb : blk' = blk
    · subst eb
      have h12 : c2 = c ∧ e2 = e ∧ fr2 = fr := by have := hc2.heap.symm.trans hc.heap; injection this with this; injection this with a b d; exact ⟨a, b, d⟩
      obtain ⟨rfl, rfl, rfl⟩ := h12
      refine ⟨spl c2 (base + o) vs, e2, fr2, hc.heap_setRow _, by rw [hs']; exact hc2.size, hc2.room, fun i hi => ?_, fun j hj => ?_, fun _ => by rw [hs']; exact hc.thaw hl⟩
      · rw [spl_getD c2 hlen]; rw [hs'] at hi
        by_cases hq : base + o ≤ i ∧ i < base + o + vs.length
        · rw [if_pos hq]; exact (hv _ (by omega)).one
        · rw [if_neg hq]; exact hc.one i hi
      · by_cases es : s' = s
        · subst es
          rw [hr] at hs2; injection hs2 with _ e3 e4 e5
          subst e3; subst e4; subst e5
          rw [spl_getD c2 hlen]
          show VR g (gt (up st.M (s' + o) n cw) (s' + j)) _
          rw [gt_up _ _ _ hcw]
          by_cases hj2 : o ≤ j ∧ j < o + n
          · rw [if_pos (by omega), if_pos (by omega), show s' + j - (s' + o) = j - o by omega, show base + j - (base + o) = j - o by omega]
            exact hv _ (by omega)
          · rw [if_neg (by omega), if_neg (by omega)]; exact hc.vr j hj
        · have hdead : ¬ Live st.M s' z' := fun hl' => h.inj s s' blk' base z room base' z' room' (Ne.symm es) hr hs2 hl hl'
          show VR g (gt (up st.M (s + o) n cw) (s' + j)) _
          rw [far s' es (by rw [hs2]; simp) j (by rw [hs2]; exact Nat.le_of_lt hj)]
          have : gt st.M (s' + j) = 0 := by
            cases hz : gt st.M (s' + j) with
            | zero => rfl
            | succ k => exact absurd ⟨j, hj, by rw [hz]; simp⟩ hdead
          rw [this]
          refine .unk _ ?_
          have hjc : base' + j < c2.size := by have := hc2.size; have := hc2.room; omega
          rw [spl_getD c2 hlen]
          by_cases hq : base + o ≤ base' + j ∧ base' + j < base + o + vs.length
          · rw [if_pos hq]; exact (hv _ (by omega)).one
          · rw [if_neg hq]; exact hc.one _ hjc
    · refine ⟨c2, e2, fr2, by rw [setRow_other _ _ _ _ eb]; exact hc2.heap, hc2.size, hc2.room, hc2.one, fun j hj => ?_, fun hl' => hc2.thaw (live s' z' _ _ _ hs2 hl')⟩
      have es : s' ≠ s := by rintro rfl; rw [hr] at hs2; injection hs2 with a; exact eb a.symm
      show VR g (gt (up st.M (s + o) n cw) (s' + j)) _
      rw [far s' es (by rw [hs2]; simp) j (by rw [hs2]; exact Nat.le_of_lt hj)]
      exact hc2.vr j hj
  · intro s' ws hs2 i hi
    have es : s' ≠ s := by rintro rfl; rw [hr] at hs2; cases hs2
    show gt (up st.M (s + o) n cw) (s' + i) = _
    rw [far s' es (by rw [hs2]; simp) i (by rw [hs2]; exact Nat.le_of_lt hi)]
    exact h.rows s' ws hs2 i hi
  · intro s' b hs2
    have es : s' ≠ s := by rintro rfl; rw [hr] at hs2; cases hs2
    have := far s' es (by rw [hs2]; simp) 0 (Nat.zero_le _)
    rw [Nat.add_zero] at this
    obtain ⟨x, hx, hm⟩ := h.maps s' b hs2
    refine ⟨x, ?_, by show MapR g (gt (up st.M (s + o) n cw) s') x; rw [this]; exact hm⟩
    rw [setRow_other _ _ _ _ (fun eb => ?_)]
    · exact hx
    · subst eb; rw [hc.heap] at hx; injection hx with hx; subst hx
      obtain ⟨_, _, _, _, _, _, _, _, _, _, _, h6, _⟩ := hm
      cases h6
  · intro s1 s2 b base1 z1 room1 base2 z2 room2 hne h1 h2 l1 l2
    exact h.inj s1 s2 b base1 z1 room1 base2 z2 room2 hne h1 h2 (live s1 z1 _ _ _ h1 l1) (live s2 z2 _ _ _ h2 l2)
  · refine setRow_other _ _ _ _ (fun eb => hb ?_)
    subst eb; exact .inl ⟨s, base, z, room, hr⟩

end
end Ev
end Go.Proofs.YtgdibfnpkcdiiaaGreatDoor
