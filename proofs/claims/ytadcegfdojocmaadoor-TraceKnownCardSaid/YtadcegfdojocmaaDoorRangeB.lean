/- The iterator of strings.SplitSeq at a blank: its contract, for whatever loop body. By an AI agent. -/
import Derived.RangeFuncNested
import Derived.RangeFuncBound
import Derived.RangeFuncLeaves
import Derived.Shelf.Abstract
import Derived.Shelf.RegionOpen
import Derived.WalkKit
import Derived.OwnWalkIn
import Derived.TacticsInMore
import Derived.LoopNIn
import Derived.LoopIn
import Derived.Lib.Bytealg
import Derived.Test.YtadcegfdojocmaaDoorRangeA
import Derived.Test.YtadcegfdojocmaaDoorShelfB
import Derived.Test.YtadcegfdojocmaaDoorParts
namespace Go.Proofs.YtadcegfdojocmaaDoor
open Go.RowKit
attribute [local go_sem] Oper.semAt_some

theorem idx_no (l : List UInt8) (h : (32 : UInt8) ∉ l) : Lib.indexByte l 32 = -1 := by
  induction l with
  | nil => rfl
  | cons c r ih =>
    simp only [List.mem_cons, not_or] at h
    unfold Lib.indexByte
    rw [ih h.2]
    simp [fun e : c = 32 => h.1 e.symm]
    exact fun e => h.1 e.symm
theorem idx_yes (a r : List UInt8) (h : (32 : UInt8) ∉ a) : Lib.indexByte (a ++ 32 :: r) 32 = a.length := by
  induction a with
  | nil => simp [Lib.indexByte]
  | cons c t ih =>
    simp only [List.mem_cons, not_or] at h
    simp only [List.cons_append, Lib.indexByte]
    have hc : (c == 32) = false := beq_eq_false_iff_ne.2 (fun e => h.1 e.symm)
    rw [ih h.2, hc]
    have hn : ((t.length : Int) == -1) = false := beq_eq_false_iff_ne.2 (by omega)
    rw [hn]
    rfl
theorem cut_at (l : List UInt8) (h : (32 : UInt8) ∈ l) : ∃ a r, l = a ++ 32 :: r ∧ (32 : UInt8) ∉ a := by
  induction l with
  | nil => simp at h
  | cons c t ih =>
    by_cases hc : c = 32
    · exact ⟨[], t, by simp [hc], by simp⟩
    · have ht : (32 : UInt8) ∈ t := by
        rcases List.mem_cons.1 h with e | h'
        · exact absurd e.symm hc
        · exact h'
      obtain ⟨a, r, rfl, ha⟩ := ih ht
      exact ⟨c :: a, r, rfl, by simp only [List.mem_cons, not_or]; exact ⟨fun e => hc e.symm, ha⟩⟩

/-- Boxes of texts and of integers stay. -/
def Kbox (W W' : World) : Prop := ∀ (r : Nat) (x : Value) (t : TypeId), (t = 9 ∨ t = 3 ∨ t = 72) → Boxed W r t x → Boxed W' r t x
theorem Kbox.trans {A B C : World} (h : Kbox A B) (k : Kbox B C) : Kbox A C := fun r x t ht hb => k r x t ht (h r x t ht hb)
theorem Kbox.below {W W' : World} (h : Below W.heap.size W W') : Kbox W W' := fun r x t _ hb => (h.block r hb.lt).trans hb
/-- The length of the text in a box. -/
def boxLen (W : World) (B : Nat) : Nat := match W.cell? ⟨B, 0, none⟩ with
  | some (.string b) => b.size
  | _ => 0
theorem boxLen_eq {W : World} {B : Nat} {s : List UInt8} (h : Boxed W B 9 (.string ⟨s.toArray⟩)) : boxLen W B = s.length := by
  unfold boxLen; rw [h.cell]; rfl

theorem splitB_len (l : List UInt8) : (splitB l).length ≤ l.length + 1 := by
  induction l with
  | nil => simp [splitB]
  | cons c r ih =>
    simp only [splitB]
    split
    · simp; omega
    · split
      · simp
      · rename_i x xs he; rw [he] at ih; simp at ih ⊢; omega
theorem pre_le {s : List UInt8} {pre : List (List UInt8)} {rest : List UInt8} {N : Nat} (h : splitB s = pre ++ splitB rest) (hs : s.length ≤ N) : pre.length ≤ N := by
  have h1 := splitB_len s
  have h2 := congrArg List.length h
  rw [List.length_append] at h2
  have h3 : 0 < (splitB rest).length := List.length_pos_iff.2 (splitB_ne rest)
  omega

set_option maxRecDepth 100000 in
set_option maxHeartbeats 4000000 in
theorem split_in (n l Bs Bp Bv : Nat) (hn : 1 ≤ n) (hd1 : Bs ≠ Bp) (hd2 : Bs ≠ Bv) (J Jx : List (List UInt8) → World → Prop)
    (hJ : ∀ pre W (x y : Value), J pre W → Boxed W Bs 9 x → J pre (W.setCell ⟨Bs, 0, none⟩ y))
    (hY : ∀ pre (p : List UInt8) W, J pre W → p.length ≤ 100000 → pre.length ≤ 100000 → YieldAt Fence.wide (n - 1) Tryd.prog l #[.string ⟨p.toArray⟩] W fun e W' =>
      (e = .returned (.bool true) ∧ J (pre ++ [p]) W' ∧ Kbox W W') ∨ (e = .returned (.bool false) ∧ Jx (pre ++ [p]) W'))
    (s : List UInt8) (W : World) (h1 : Boxed W Bs 9 (.string ⟨s.toArray⟩)) (h2 : Boxed W Bp 9 (.string ⟨#[32]⟩)) (h3 : Boxed W Bv 3 (.int .i64 0)) (hs : s.length ≤ 100000) (h0 : J [] W) :
    CallsIn Fence.wide n Tryd.prog 65 #[.func (.yield l) #[] #[], .pointer (some ⟨Bp, 0, none⟩), .pointer (some ⟨Bs, 0, none⟩), .pointer (some ⟨Bv, 0, none⟩)] W fun e W' =>
      (∃ v, e = .returned v) ∧ (J (splitB s) W' ∨ ∃ pre r, splitB s = pre ++ r ∧ Jx pre W') := by
  refine callsIn_of_wp Tryd.func65 rfl trivial ?_ rfl
  simp only [Tryd.ntmps65, List.size_toArray, List.length_cons, List.length_nil, Nat.reduceAdd, Nat.reduceSub, Array.replicate_succ, Array.replicate_zero, List.push_toArray, List.append_toArray, List.nil_append, List.cons_append]
  have c2 := h2.cell
  gi_wp2
  clear c2
  gi_loopw [7] (fun _ wr => ∃ (pre : List (List UInt8)) (rest : List UInt8), Hid (splitB s = pre ++ splitB rest) ∧ Boxed wr Bs 9 (.string ⟨rest.toArray⟩) ∧ Boxed wr Bp 9 (.string ⟨#[32]⟩) ∧ Boxed wr Bv 3 (.int .i64 0) ∧ J pre wr ∧ rest.length ≤ 100000)
    (fun _ wr => boxLen wr Bs)
  case atStart => exact ⟨[], s, Lib.hid rfl, h1, h2, h3, h0, hs⟩
  case round =>
    obtain ⟨pre, rest, HS, b1, b2, b3, hj, hl⟩ := hrel
    have c1 := b1.cell
    have c2 := b2.cell
    have c3 := b3.cell
    have HB1 := Lib.hid b1; have HB2 := Lib.hid b2; have HB3 := Lib.hid b3; have HJ0 := Lib.hid hj
    clear b1 b2 b3 hj
    by_cases hm : (32 : UInt8) ∈ rest
    · obtain ⟨a, r, hr, ha⟩ := cut_at rest hm
      have hix := idx_yes a r ha
      have HR := Lib.hid hr
      have HIX := Lib.hid hix
      clear hix hm
      have hlen : a.length + r.length + 1 = rest.length := by rw [hr]; simp; omega
      have hal : (a.length : Int) ≤ 100000 := by omega
      have hal0 : (0 : Int) ≤ (a.length : Int) := by omega
      clear hr
      have hx : (⟨rest.toArray⟩ : ByteArray).extract 0 a.length = ⟨a.toArray⟩ := by
        ext1; rw [HR.out]; simp
      have hx2 : (⟨rest.toArray⟩ : ByteArray).extract (a.length + 1) rest.length = ⟨r.toArray⟩ := by
        ext1; rw [HR.out]; simp; exact List.take_of_length_le (by omega)
      have HX2 := Lib.hid hx2
      clear hx2
      obtain ⟨fn, tmps, assign, body, hy, hR⟩ := hY pre a wr HJ0.out (by omega) (pre_le HS.out hs)
      rw [← hx] at hy
      have HX := Lib.hid hx
      clear hx
      gi_wp2_with (refine ⟨trivial, ?_⟩; gi_at_call 67; refine (callsIn_wide.2 (Tryd.strings_Index_one ⟨rest.toArray⟩ 32 _)).mono ?_; rintro e w' ⟨rfl, rfl⟩; rw [show Lib.indexByte (⟨rest.toArray⟩ : ByteArray).data.toList 32 = (a.length : Int) by rw [HR.out]; exact HIX.out])
      refine hR.mono ?_
      rintro e W3 (⟨rfl, hJ3, hk3⟩ | ⟨rfl, hx3⟩)
      · clear hy hR
        have d1 := hk3 _ _ _ (Or.inl rfl) HB1.out
        have d2 := hk3 _ _ _ (Or.inl rfl) HB2.out
        have d3 := hk3 _ _ _ (Or.inr (Or.inl rfl)) HB3.out
        clear c1 c2 c3
        have c1 := d1.cell
        have c2 := d2.cell
        have f1 := d1.frozen
        have HD1 := Lib.hid d1; have HD2 := Lib.hid d2; have HD3 := Lib.hid d3
        clear d1 d2 d3 hk3
        gi_wp2
        rw [HX2.out]
        refine ⟨⟨pre ++ [a], r, ?_, HD1.out.set _, HD2.out.other (Ne.symm hd1) _, HD3.out.other (Ne.symm hd2) _, hJ _ _ _ _ hJ3 HD1.out, by omega⟩, ?_⟩
        · refine Lib.hid ?_
          rw [HS.out, HR.out, splitB_step _ _ ha]; simp
        · rw [boxLen_eq (HD1.out.set _), boxLen_eq HB1.out]; omega
      · gi_wp2
        refine bodyPost_ret (results_none rfl _ _ _) rfl ?_
        exact ⟨⟨_, rfl⟩, Or.inr ⟨pre ++ [a], splitB r, by rw [HS.out, HR.out, splitB_step _ _ ha]; simp, hx3⟩⟩
    · have hix := idx_no rest hm
      have HIX := Lib.hid hix
      clear hix
      obtain ⟨fn, tmps, assign, body, hy, hR⟩ := hY pre rest wr HJ0.out hl (pre_le HS.out hs)
      gi_wp2_with (refine ⟨trivial, ?_⟩; gi_at_call 67; refine (callsIn_wide.2 (Tryd.strings_Index_one ⟨rest.toArray⟩ 32 _)).mono ?_; rintro e w' ⟨rfl, rfl⟩; rw [show Lib.indexByte (⟨rest.toArray⟩ : ByteArray).data.toList 32 = -1 from HIX.out])
      refine hR.mono ?_
      rintro e W3 (⟨rfl, hJ3, hk3⟩ | ⟨rfl, hx3⟩)
      · gi_wp2
        go_end0
        exact ⟨⟨_, rfl⟩, Or.inl (by rw [HS.out, splitB_one _ hm]; exact hJ3)⟩
      · gi_wp2
        go_end0
        exact ⟨⟨_, rfl⟩, Or.inr ⟨pre ++ [rest], [], by rw [HS.out, splitB_one _ hm]; simp, hx3⟩⟩
end Go.Proofs.YtadcegfdojocmaaDoor
