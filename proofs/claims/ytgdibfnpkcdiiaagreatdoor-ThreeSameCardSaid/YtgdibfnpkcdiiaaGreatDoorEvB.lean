/- What a word says of a value of the model: the relations VR (a cell) and TR (a slot), under a table of allocations. No condition. -/
import Derived.Test.YtgdibfnpkcdiiaaGreatDoorEvA
import Derived.Laws.Sem
namespace Go.Proofs.YtgdibfnpkcdiiaaGreatDoor
namespace Ev

def kc : IntKind → Nat
  | .i8 => 0 | .i16 => 1 | .i32 => 2 | .i64 => 3 | .u8 => 4 | .u16 => 5 | .u32 => 6 | .u64 => 7
theorem kc_lt (k : IntKind) : kc k < 8 := by cases k <;> decide
theorem kc_inj {j k : IntKind} (h : kc j = kc k) : j = k := by cases j <;> cases k <;> first | rfl | (exact absurd h (by decide))

noncomputable def eBool (b : Bool) : Nat := Bool.rec 1 17 b
def eInt (k : IntKind) (n : Int) : Nat := 2 + 16 * kc k + 256 * (n + 9223372036854775808).toNat
def eStr (st l : Nat) : Nat := 3 + 16 * l + 268435456 * st
def ePtr (s z o : Nat) : Nat := 5 + 16 * s + 268435456 * z + 4503599627370496 * o
def eSli (s z l e o : Nat) : Nat := 7 + 16 * s + 268435456 * z + 4503599627370496 * l + 75557863725914323419136 * e + 19342813113834066795298816 * o
def eMap (s : Nat) : Nat := 8 + 16 * s
def eFun (f m n s : Nat) : Nat := 10 + 16 * f + 1048576 * m + 268435456 * n + 68719476736 * s
def eFn0 (f : Nat) : Nat := 15 + 16 * f
def eIfc (t s : Nat) : Nat := 11 + 16 * t + 68719476736 * s
def eAgg (st n : Nat) : Nat := 12 + 16 * n + 268435456 * st
/-- A value that has a name: a number, a truth, a text, a slice's header. -/
def eSym (j : Nat) : Nat := 16 + 16 * j
def eTup (st n : Nat) : Nat := 13 + 16 * n + 268435456 * st

/-- What an allocation is: cells in a block (from where, how many, how many there are room for), a row of words that stays, a map. -/
inductive Info where
  | free
  | cells (blk base size room : Nat)
  | row (ws : List Nat)
  | map (blk : Nat)

structure Gh where
  rho : Nat → Info
  S : Nat
  nS : Nat
  rh : Nat → Value := fun _ => undef

def byteAt (S i : Nat) : Nat := Nat.land (Nat.shiftRight S (Nat.mul 8 i)) 255
def strOf (S st l : Nat) : ByteArray := ⟨((List.range l).map fun i => UInt8.ofNat (byteAt S (st + i))).toArray⟩

structure Gh.le (g g' : Gh) : Prop where
  rho : ∀ s, g.rho s ≠ .free → g'.rho s = g.rho s
  nS : g.nS ≤ g'.nS
  byte : ∀ i, i < g.nS → byteAt g'.S i = byteAt g.S i
  rh : g'.rh = g.rh

theorem Gh.le.refl (g : Gh) : g.le g := ⟨fun _ _ => rfl, Nat.le_refl _, fun _ _ => rfl, rfl⟩
theorem Gh.le.trans {a b c : Gh} (h : a.le b) (k : b.le c) : a.le c :=
  ⟨fun s hs => by rw [k.rho s (by rw [h.rho s hs]; exact hs), h.rho s hs], Nat.le_trans h.nS k.nS,
    fun i hi => (k.byte i (Nat.lt_of_lt_of_le hi h.nS)).trans (h.byte i hi), k.rh.trans h.rh⟩

theorem strOf_le {g g' : Gh} (h : g.le g') {st l : Nat} (hb : st + l ≤ g.nS) : strOf g'.S st l = strOf g.S st l := by
  unfold strOf
  congr 2
  refine List.map_congr_left fun i hi => ?_
  rw [h.byte _ (by have := List.mem_range.1 hi; omega)]

inductive VR (g : Gh) : Nat → Value → Prop
  | unk (v : Value) (h : v.oneCell' = true) : VR g 0 v
  | sym (j : Nat) (hj : j < 16777216) (h : (g.rh j).oneCell' = true) : VR g (eSym j) (g.rh j)
  | bool (b : Bool) : VR g (eBool b) (.bool b)
  | int (k : IntKind) (n : Int) (h1 : -9223372036854775808 ≤ n) (h2 : n < 18446744073709551616) : VR g (eInt k n) (.int k n)
  | str (st l : Nat) (h1 : l < 16777216) (h2 : st + l ≤ g.nS) (h3 : st < 4294967296) : VR g (eStr st l) (.string (strOf g.S st l))
  | pnil : VR g 4 (.pointer none)
  | ptr (s z o blk base room : Nat) (hs : s < 16777216) (hz : z < 16777216) (h : g.rho s = .cells blk base z room) (ho : o ≤ z) :
      VR g (ePtr s z o) (.pointer (some ⟨blk, base + o, none⟩))
  | snil : VR g 6 (.slice none 0 0)
  | sli (s z l e o blk base room cap : Nat) (a : Addr) (hs : s < 16777216) (hz : z < 16777216) (hl : l < 16777216) (he : e < 256) (h : g.rho s = .cells blk base z room)
      (ho : o + l * e ≤ z) (hc : l ≤ cap) (ha : cap = 0 ∨ (a = ⟨blk, base + o, none⟩ ∧ o + cap * e ≤ room)) : VR g (eSli s z l e o) (.slice (some a) l cap)
  | semp (a : Addr) : VR g 57 (.slice (some a) 0 0)
  | mnil : VR g 9 (.map none)
  | map (s blk : Nat) (hs : s < 16777216) (h : g.rho s = .map blk) : VR g (eMap s) (.map (some blk))
  | fnil : VR g 25 .nilFunc
  | inil : VR g 41 .nilIface
  | func (f m n s : Nat) (ws : List Nat) (first cap : Array Value) (hf : f < 65536) (hm : m < 256) (hn : n < 256) (hs : s < 16777216) (h : g.rho s = .row ws)
      (hm' : first.size = m) (hn' : cap.size = n) (hw : ws.length = m + n) (h1 : ∀ i, i < m → VR g (ws.getD i 0) (first.getD i undef))
      (h2 : ∀ i, i < n → VR g (ws.getD (m + i) 0) (cap.getD i undef)) : VR g (eFun f m n s) (.func (.func f) first cap)
  | fn0 (f : Nat) (hf : f < 65536) : VR g (eFn0 f) (.func (.func f) #[] #[])
  | ifc (t s w : Nat) (v : Value) (ht : t < 1048576) (hs : s < 16777216) (h : g.rho s = .row [w]) (hv : VR g w v) (h0 : w ≠ 0) : VR g (eIfc t s) (.iface t v)

theorem VR.mono {g g' : Gh} (h : g.le g') {w : Nat} {v : Value} (hv : VR g w v) : VR g' w v := by
  induction hv with
  | unk v h => exact .unk v h
  | sym j hj ho => rw [← h.rh]; exact .sym j hj (by rw [h.rh]; exact ho)
  | bool b => exact .bool b
  | int k n h1 h2 => exact .int k n h1 h2
  | str st l h1 h2 h3 => rw [← strOf_le h h2]; exact .str st l h1 (Nat.le_trans h2 h.nS) h3
  | pnil => exact .pnil
  | ptr s z o blk base room hs hz hr ho => exact .ptr s z o blk base room hs hz (by rw [h.rho s (by rw [hr]; simp), hr]) ho
  | snil => exact .snil
  | sli s z l e o blk base room cap a hs hz hl he hr ho hc ha => exact .sli s z l e o blk base room cap a hs hz hl he (by rw [h.rho s (by rw [hr]; simp), hr]) ho hc ha
  | semp a => exact .semp a
  | mnil => exact .mnil
  | map s blk hs hr => exact .map s blk hs (by rw [h.rho s (by rw [hr]; simp), hr])
  | fnil => exact .fnil
  | inil => exact .inil
  | func f m n s ws first cap hf hm hn hs hr hm' hn' hw _ _ i1 i2 => exact .func f m n s ws first cap hf hm hn hs (by rw [h.rho s (by rw [hr]; simp), hr]) hm' hn' hw i1 i2
  | fn0 f hf => exact .fn0 f hf
  | ifc t s w v ht hs hr _ h0 ih => exact .ifc t s w v ht hs (by rw [h.rho s (by rw [hr]; simp), hr]) ih h0

theorem VR.lt {g : Gh} {w : Nat} {v : Value} (hv : VR g w v) : w < 2 ^ 128 := by
  cases hv with
  | unk => decide
  | sym j hj => unfold eSym; omega
  | bool b => cases b <;> decide
  | int k n h1 h2 => have := kc_lt k; unfold eInt; omega
  | str st l h1 h2 h3 => unfold eStr; omega
  | ptr s z o _ _ _ hs hz _ ho => unfold ePtr; omega
  | sli s z l e o _ _ _ _ _ hs hz hl he _ ho => have : o ≤ z := Nat.le_trans (Nat.le_add_right _ _) ho; unfold eSli; omega
  | map s _ hs => unfold eMap; omega
  | func f m n s _ _ _ hf hm hn hs => unfold eFun; omega
  | fn0 f hf => unfold eFn0; omega
  | ifc t s _ _ ht hs => unfold eIfc; omega
  | _ => decide

section
variable {g : Gh} {w : Nat} {v : Value}
theorem VR.bool_inv (hv : VR g w v) (h : w % 16 = 1) : ∃ b, w = eBool b ∧ v = .bool b := by
  cases hv <;> first | exact ⟨_, rfl, rfl⟩ | (exfalso; (try simp only [eInt, eStr, ePtr, eSli, eMap, eFun, eIfc, eFn0, eSym] at h); omega)
theorem VR.int_inv (hv : VR g w v) (h : w % 16 = 2) : ∃ k n, w = eInt k n ∧ v = .int k n ∧ -9223372036854775808 ≤ n ∧ n < 18446744073709551616 := by
  cases hv <;> first | exact ⟨_, _, rfl, rfl, ‹_›, ‹_›⟩ | (exfalso; (try simp only [eStr, ePtr, eSli, eMap, eFun, eIfc, eFn0, eSym] at h); omega) | (rename_i b; cases b <;> exact absurd h (by decide))
theorem VR.str_inv (hv : VR g w v) (h : w % 16 = 3) : ∃ st l, w = eStr st l ∧ v = .string (strOf g.S st l) ∧ l < 16777216 ∧ st + l ≤ g.nS ∧ st < 4294967296 := by
  cases hv <;> first | exact ⟨_, _, rfl, rfl, ‹_›, ‹_›, ‹_›⟩ | (exfalso; (try simp only [eInt, ePtr, eSli, eMap, eFun, eIfc, eFn0, eSym] at h); omega) | (rename_i b; cases b <;> exact absurd h (by decide))
theorem VR.pnil_inv (hv : VR g w v) (h : w % 16 = 4) : v = .pointer none := by
  cases hv <;> first | rfl | (exfalso; (try simp only [eInt, eStr, ePtr, eSli, eMap, eFun, eIfc, eFn0, eSym] at h); omega) | (rename_i b; cases b <;> exact absurd h (by decide))
theorem VR.ptr_inv (hv : VR g w v) (h : w % 16 = 5) : ∃ s z o blk base room, w = ePtr s z o ∧ v = .pointer (some ⟨blk, base + o, none⟩) ∧
    s < 16777216 ∧ z < 16777216 ∧ g.rho s = .cells blk base z room ∧ o ≤ z := by
  cases hv <;> first | exact ⟨_, _, _, _, _, _, rfl, rfl, ‹_›, ‹_›, ‹_›, ‹_›⟩ | (exfalso; (try simp only [eInt, eStr, eSli, eMap, eFun, eIfc, eFn0, eSym] at h); omega) | (rename_i b; cases b <;> exact absurd h (by decide))
theorem VR.snil_inv (hv : VR g w v) (h : w % 16 = 6) : v = .slice none 0 0 := by
  cases hv <;> first | rfl | (exfalso; (try simp only [eInt, eStr, ePtr, eSli, eMap, eFun, eIfc, eFn0, eSym] at h); omega) | (rename_i b; cases b <;> exact absurd h (by decide))
theorem VR.sli_inv (hv : VR g w v) (h : w % 16 = 7) : ∃ s z l e o blk base room cap a, w = eSli s z l e o ∧ v = .slice (some a) l cap ∧
    s < 16777216 ∧ z < 16777216 ∧ l < 16777216 ∧ e < 256 ∧ g.rho s = .cells blk base z room ∧ o + l * e ≤ z ∧ l ≤ cap ∧ (cap = 0 ∨ (a = ⟨blk, base + o, none⟩ ∧ o + cap * e ≤ room)) := by
  cases hv <;> first | exact ⟨_, _, _, _, _, _, _, _, _, _, rfl, rfl, ‹_›, ‹_›, ‹_›, ‹_›, ‹_›, ‹_›, ‹_›, ‹_›⟩ | (exfalso; (try simp only [eInt, eStr, ePtr, eMap, eFun, eIfc, eFn0, eSym] at h); omega) | (rename_i b; cases b <;> exact absurd h (by decide))
theorem VR.map_inv (hv : VR g w v) (h : w % 16 = 8) : ∃ s blk, w = eMap s ∧ v = .map (some blk) ∧ s < 16777216 ∧ g.rho s = .map blk := by
  cases hv <;> first | exact ⟨_, _, rfl, rfl, ‹_›, ‹_›⟩ | (exfalso; (try simp only [eInt, eStr, ePtr, eSli, eFun, eIfc, eFn0, eSym] at h); omega) | (rename_i b; cases b <;> exact absurd h (by decide))
theorem VR.semp_inv (hv : VR g w v) (h : w = 57) : ∃ a, v = .slice (some a) 0 0 := by
  cases hv <;> first | exact ⟨_, rfl⟩ | (exfalso; (try simp only [eInt, eStr, ePtr, eSli, eMap, eFun, eIfc, eFn0, eSym] at h); omega) | (rename_i b; cases b <;> exact absurd h (by decide))
theorem VR.mnil_inv (hv : VR g w v) (h : w = 9) : v = .map none := by
  cases hv <;> first | rfl | (exfalso; (try simp only [eInt, eStr, ePtr, eSli, eMap, eFun, eIfc, eFn0, eSym] at h); omega) | (rename_i b; cases b <;> exact absurd h (by decide))
theorem VR.fnil_inv (hv : VR g w v) (h : w = 25) : v = .nilFunc := by
  cases hv <;> first | rfl | (exfalso; (try simp only [eInt, eStr, ePtr, eSli, eMap, eFun, eIfc, eFn0, eSym] at h); omega) | (rename_i b; cases b <;> exact absurd h (by decide))
theorem VR.inil_inv (hv : VR g w v) (h : w = 41) : v = .nilIface := by
  cases hv <;> first | rfl | (exfalso; (try simp only [eInt, eStr, ePtr, eSli, eMap, eFun, eIfc, eFn0, eSym] at h); omega) | (rename_i b; cases b <;> exact absurd h (by decide))
theorem VR.func_inv (hv : VR g w v) (h : w % 16 = 10) : ∃ f m n s ws first cap, w = eFun f m n s ∧ v = .func (.func f) first cap ∧ f < 65536 ∧ m < 256 ∧ n < 256 ∧ s < 16777216 ∧
    g.rho s = .row ws ∧ first.size = m ∧ cap.size = n ∧ ws.length = m + n ∧ (∀ i, i < m → VR g (ws.getD i 0) (first.getD i undef)) ∧
      (∀ i, i < n → VR g (ws.getD (m + i) 0) (cap.getD i undef)) := by
  cases hv <;> first | exact ⟨_, _, _, _, _, _, _, rfl, rfl, ‹_›, ‹_›, ‹_›, ‹_›, ‹_›, ‹_›, ‹_›, ‹_›, ‹_›, ‹_›⟩ | (exfalso; (try simp only [eInt, eStr, ePtr, eSli, eMap, eIfc, eFn0, eSym] at h); omega) | (rename_i b; cases b <;> exact absurd h (by decide))
theorem VR.ifc_inv (hv : VR g w v) (h : w % 16 = 11) : ∃ t s u x, w = eIfc t s ∧ v = .iface t x ∧ t < 1048576 ∧ s < 16777216 ∧ g.rho s = .row [u] ∧ VR g u x ∧ u ≠ 0 := by
  cases hv <;> first | exact ⟨_, _, _, _, rfl, rfl, ‹_›, ‹_›, ‹_›, ‹_›, ‹_›⟩ | (exfalso; (try simp only [eInt, eStr, ePtr, eSli, eMap, eFun, eFn0, eSym] at h); omega) | (rename_i b; cases b <;> exact absurd h (by decide))
theorem VR.one (hv : VR g w v) : v.oneCell' = true := by
  cases hv <;> first | assumption | rfl
theorem VR.fn0_inv (hv : VR g w v) (h : w % 16 = 15) : ∃ f, w = eFn0 f ∧ v = .func (.func f) #[] #[] ∧ f < 65536 := by
  cases hv <;> first | exact ⟨_, rfl, rfl, ‹_›⟩ | (exfalso; (try simp only [eInt, eStr, ePtr, eSli, eMap, eFun, eIfc, eSym] at h); omega) | (rename_i b; cases b <;> exact absurd h (by decide))
theorem VR.sym_inv (hv : VR g w v) (h : w % 16 = 0) (h0 : w ≠ 0) : ∃ j, w = eSym j ∧ v = g.rh j ∧ j < 16777216 ∧ (g.rh j).oneCell' = true := by
  cases hv <;> first | exact ⟨_, rfl, rfl, ‹_›, ‹_›⟩ | (exfalso; (try simp only [eInt, eStr, ePtr, eSli, eMap, eFun, eIfc, eFn0] at h); omega) | (rename_i b; cases b <;> exact absurd h (by decide)) | (exact absurd rfl h0)
theorem VR.tag (hv : VR g w v) : w % 16 ≠ 12 ∧ w % 16 ≠ 13 ∧ w % 16 ≠ 14 := by
  cases hv <;> first | ((try simp only [eInt, eStr, ePtr, eSli, eMap, eFun, eIfc, eFn0, eSym]); omega) | (rename_i b; cases b <;> decide)
end

/-- A slot: a cell's word, or a row of such in the frame's rows. -/
inductive TR (g : Gh) (R nR : Nat) : Nat → Value → Prop
  | unk (v : Value) : TR g R nR 0 v
  | und : TR g R nR 14 undef
  | cell (w : Nat) (v : Value) (h : VR g w v) : TR g R nR w v
  | agg (st n : Nat) (vs : Array Value) (hn : n < 16777216) (hs : st < 4294967296) (h : st + n ≤ nR) (hv : vs.size = n) (hc : ∀ i, i < n → VR g (gt R (st + i)) (vs.getD i undef)) :
      TR g R nR (eAgg st n) (.agg vs)
  | tup (st n : Nat) (vs : Array Value) (hn : n < 16777216) (hs : st < 4294967296) (h : st + n ≤ nR) (hv : vs.size = n) (hc : ∀ i, i < n → TR g R nR (gt R (st + i)) (vs.getD i undef)) :
      TR g R nR (eTup st n) (.tuple vs)

/-- Rows that go on. -/
def Ext (R nR R' nR' : Nat) : Prop := nR ≤ nR' ∧ ∀ i, i < nR → gt R' i = gt R i
theorem Ext.refl (R nR : Nat) : Ext R nR R nR := ⟨Nat.le_refl _, fun _ _ => rfl⟩
theorem Ext.trans {A a B b C c : Nat} (h : Ext A a B b) (k : Ext B b C c) : Ext A a C c :=
  ⟨Nat.le_trans h.1 k.1, fun i hi => (k.2 i (Nat.lt_of_lt_of_le hi h.1)).trans (h.2 i hi)⟩
theorem Ext.ad {R nR : Nat} (n c : Nat) (h : R < 2 ^ (128 * nR)) : Ext R nR (ad R nR c) (nR + n) :=
  ⟨by omega, fun i hi => by rw [gt_ad _ _ h, if_pos hi]⟩

theorem TR.mono {g g' : Gh} {R nR R' nR' : Nat} (h : g.le g') (hr : Ext R nR R' nR') {w : Nat} {v : Value} (hv : TR g R nR w v) : TR g' R' nR' w v := by
  induction hv with
  | unk v => exact .unk v
  | und => exact .und
  | cell w v hv => exact .cell w v (hv.mono h)
  | agg st n vs hn hs hb hv hc => exact .agg st n vs hn hs (Nat.le_trans hb hr.1) hv fun i hi => by rw [hr.2 _ (by omega)]; exact (hc i hi).mono h
  | tup st n vs hn hs hb hv _ ih => exact .tup st n vs hn hs (Nat.le_trans hb hr.1) hv fun i hi => by rw [hr.2 _ (by omega)]; exact ih i hi

theorem TR.lt {g : Gh} {R nR w : Nat} {v : Value} (hv : TR g R nR w v) : w < 2 ^ 128 := by
  cases hv with
  | unk => decide
  | und => decide
  | cell _ _ h => exact h.lt
  | agg st n _ hn hs => unfold eAgg; omega
  | tup st n _ hn hs => unfold eTup; omega

theorem TR.cell_inv {g : Gh} {R nR w : Nat} {v : Value} (hv : TR g R nR w v) (h : w % 16 ≠ 12) (h1 : w % 16 ≠ 13) (h2 : w % 16 ≠ 14) (h0 : w ≠ 0) : VR g w v := by
  cases hv with
  | unk => exact absurd rfl h0
  | und => exact absurd rfl h2
  | cell _ _ h => exact h
  | agg st n => exfalso; simp only [eAgg] at h; omega
  | tup st n => exfalso; simp only [eTup] at h1; omega

theorem TR.agg_inv {g : Gh} {R nR w : Nat} {v : Value} (hv : TR g R nR w v) (h : w % 16 = 12) : ∃ st n vs, w = eAgg st n ∧ v = .agg vs ∧ n < 16777216 ∧ st < 4294967296 ∧ st + n ≤ nR ∧ vs.size = n ∧
    ∀ i, i < n → VR g (gt R (st + i)) (vs.getD i undef) := by
  cases hv with
  | unk => omega
  | und => omega
  | cell _ _ hv => have := hv.tag; omega
  | agg st n vs hn hs hb hv hc => exact ⟨st, n, vs, rfl, rfl, hn, hs, hb, hv, hc⟩
  | tup st n => exfalso; simp only [eTup] at h; omega

theorem TR.tup_inv {g : Gh} {R nR w : Nat} {v : Value} (hv : TR g R nR w v) (h : w % 16 = 13) : ∃ st n vs, w = eTup st n ∧ v = .tuple vs ∧ n < 16777216 ∧ st < 4294967296 ∧ st + n ≤ nR ∧ vs.size = n ∧
    ∀ i, i < n → TR g R nR (gt R (st + i)) (vs.getD i undef) := by
  cases hv with
  | unk => omega
  | und => omega
  | cell _ _ hv => have := hv.tag; omega
  | agg st n => exfalso; simp only [eAgg] at h; omega
  | tup st n vs hn hs hb hv hc => exact ⟨st, n, vs, rfl, rfl, hn, hs, hb, hv, hc⟩

end Ev
end Go.Proofs.YtgdibfnpkcdiiaaGreatDoor
