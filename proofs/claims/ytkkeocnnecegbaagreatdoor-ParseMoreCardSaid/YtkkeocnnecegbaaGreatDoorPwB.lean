/- The walks over the reader of the package parse: level, mark; items in memory; add. By an AI agent. -/
import Derived.Test.YtkkeocnnecegbaaGreatDoorPwA
import Derived.Deep.AppendLies
namespace Go.Proofs.YtkkeocnnecegbaaGreatDoor
open Go.RowKit

theorem level_any (n : Nat) (w : World) : Calls Tryz.prog 177 #[.int .i64 n] w fun e w' => e = .returned (.int .i64 (levelN n)) ∧ w = w' := by
  by_cases h4 : n ≤ 4
  · have k : (n : Int) ≤ 4 := by omega
    go_enter Tryz.func177, Tryz.ntmps177
    go_wp2_with fail
    go_ret
    exact ⟨by unfold levelN; rw [if_pos h4]; rfl, rfl⟩
  · have k : ¬ (n : Int) ≤ 4 := by omega
    by_cases h8 : n ≤ 8
    · have k2 : (n : Int) ≤ 8 := by omega
      go_enter Tryz.func177, Tryz.ntmps177
      go_wp2_with fail
      go_ret
      exact ⟨by unfold levelN; rw [if_neg h4, if_pos h8]; rfl, rfl⟩
    · have k2 : ¬ (n : Int) ≤ 8 := by omega
      go_enter Tryz.func177, Tryz.ntmps177
      go_wp2_with fail
      go_ret
      exact ⟨by unfold levelN; rw [if_neg h4, if_neg h8]; rfl, rfl⟩

def marksB : ByteArray := ⟨#[32, 60, 32, 60, 61, 32, 61, 61, 32, 33, 61, 32, 43, 32, 45, 32, 124, 32, 94, 32, 42, 32, 47, 32, 37, 32, 38, 32, 60, 60, 32, 62, 62]⟩
def markSL : List (List UInt8) := [] :: binMarks
theorem marks_count : Lib.countB marksB ⟨#[32]⟩ = 14 := by kernel_rfl
theorem marks_split : Lib.splitB ⟨#[32]⟩ 0 14 marksB = markSL.map (fun x => (⟨x.toArray⟩ : ByteArray)) := by kernel_rfl
theorem split_v (w : World) (m : Int) (hm : w.cell? ⟨3, 0, none⟩ = some (.int .i64 m)) :
    Calls Tryz.prog 178 #[.string marksB, .string ⟨#[32]⟩] w fun e w' => e = .returned (.slice (some ⟨w.heap.size, 0, none⟩) 15 15) ∧ Blk w' w.heap.size 9 (strV markSL).toArray ∧ Below w.heap.size w w' := by
  refine (Tryz.strings_Split marksB ⟨#[32]⟩ m w (by decide) hm (by decide)).mono ?_
  rintro e w' ⟨rfl, rfl⟩
  rw [marks_count, marks_split]
  refine ⟨rfl, ?_, (Below.refl _ _).alloc (Nat.le_refl _) _⟩
  have : ((markSL.map (fun x => (⟨x.toArray⟩ : ByteArray))).map Value.string).toArray = (strV markSL).toArray := by simp [strV]
  rw [this]
  exact Blk.new _ _ _
theorem mark_cell {w : World} {b : Nat} (h : Blk w b 9 (strV markSL).toArray) (j : Nat) (hj : j < 15) : w.cell? ⟨b, j, none⟩ = some (.string ⟨(markSL.getD j []).toArray⟩) := by
  rw [h.cell j]
  have hl : markSL.length = 15 := rfl
  simp [strV, List.getElem?_map, List.getElem?_eq_getElem (show j < markSL.length by omega), List.getD]

set_option maxRecDepth 100000 in
set_option maxHeartbeats 4000000 in
/-- mark. -/
theorem mark_any (R d of : Nat) (ts : List Tok) (w : World) (h : RD w R ts d) :
    Calls Tryz.prog 240 #[.pointer (some ⟨R, 0, none⟩), .int .i64 of] w fun e w' => e = .returned (.int .i64 (markOf of ts)) ∧ Below w.heap.size w w' := by
  obtain ⟨t, r, rfl⟩ := h.fin.cons
  have H := Lib.hid h
  obtain ⟨m, hm⟩ := h.max
  have HM := Lib.hid hm; clear hm h
  go_enter Tryz.func240, Tryz.ntmps240
  go_wp2_with fail
  change Calls Tryz.prog 178 #[.string marksB, .string ⟨#[32]⟩] _ _
  refine (split_v _ m HM.out).mono ?_; rintro e w1 ⟨rfl, hB, hb⟩
  have HB := Lib.hid hB; clear hB
  have hb1 := Lib.hid hb
  clear hb
  go_wp2_with fail
  go_loopw [9] (fun i wr => ∃ j : Nat, j ≤ 15 ∧ i = .int .i64 j ∧ Below w1.heap.size w1 wr ∧ Hid (0 < j → markFrom of (t :: r) j (binMarks.drop (j - 1)) = markOf of (t :: r))) (fun i _ => 15 - (intOf i).toNat)
  case atStart => exact ⟨0, Nat.zero_le _, rfl, Below.refl _ _, Lib.hid (fun h => by omega)⟩
  case round =>
    obtain ⟨j, hj, rfl, hb, HF⟩ := hrel
    by_cases hlt : j < 15
    · have hcell := mark_cell (HB.out.below hb) j hlt
      have hli : (j : Int) < 15 := by omega
      by_cases h0 : j = 0
      · subst h0
        go_wp2_with fail
        go_roundw
        case rel => exact ⟨1, by omega, by go_num, hb, Lib.hid (fun _ => rfl)⟩
        case measure => simp [intOf]
      · have hp : (0 : Int) < (j : Int) := by omega
        obtain ⟨q, Q, hd⟩ : ∃ q Q, binMarks.drop (j - 1) = q :: Q ∧ q = markSL.getD j [] ∧ Q = binMarks.drop (j + 1 - 1) := by
          have hl : binMarks.length = 14 := rfl
          refine ⟨_, _, List.drop_eq_getElem_cons (show j - 1 < binMarks.length by omega), ?_, by rw [show j - 1 + 1 = j + 1 - 1 by omega]⟩
          obtain ⟨i, rfl⟩ : ∃ i, j = i + 1 := ⟨j - 1, by omega⟩
          simp [markSL, List.getD, List.getElem?_eq_getElem (show i < binMarks.length by omega)]
        have HD := Lib.hid hd
        clear hd
        have hs := hb.size
        by_cases hl : levelN j = of
        · have k1 : ((levelN j : Int) == (of : Int)) = true := by simp [hl]
          have k2 : (levelN j == of) = true := by simp [hl]
          cases hi : isT (markSL.getD j []) (t :: r)
          · have HI := Lib.hid hi; have HL := Lib.hid hl; clear hi hl
            go_wp2_with fail
            refine (level_any j _).mono ?_; rintro e w2 ⟨rfl, rfl⟩
            go_wp2_with fail
            refine (is_any R t r d (markSL.getD j []) _ ((H.out.below hb1.out H.out.lt.1).below hb (by have := H.out.lt.1; have := hb1.out.size; omega))).mono ?_; rintro e w2 ⟨rfl, hb2⟩; rw [HI.out]
            go_wp2_with fail
            go_roundw
            case rel => exact ⟨j + 1, by omega, by go_num, hb.trans (hb2.mono hs), Lib.hid (fun _ => by
              rw [← HF.out (by omega), HD.out.1, ← HD.out.2.2, markFrom, if_neg (by rw [HD.out.2.1, HI.out]; simp)])⟩
            case measure => simp [intOf]; omega
          · have HI := Lib.hid hi; have HL := Lib.hid hl; clear hi hl
            go_wp2_with fail
            refine (level_any j _).mono ?_; rintro e w2 ⟨rfl, rfl⟩
            go_wp2_with fail
            refine (is_any R t r d (markSL.getD j []) _ ((H.out.below hb1.out H.out.lt.1).below hb (by have := H.out.lt.1; have := hb1.out.size; omega))).mono ?_; rintro e w2 ⟨rfl, hb2⟩; rw [HI.out]
            go_wp2_with fail
            go_ret
            refine ⟨?_, hb1.out.trans ((hb.trans (hb2.mono hs)).mono hb1.out.size)⟩
            rw [← HF.out (by omega), HD.out.1, markFrom, if_pos ⟨HL.out, by rw [HD.out.2.1]; exact HI.out⟩]; rfl
        · have k1 : ((levelN j : Int) == (of : Int)) = false := by simp; omega
          have k2 : (levelN j == of) = false := by simp [hl]
          have HL := Lib.hid hl; clear hl
          go_wp2_with fail
          refine (level_any j _).mono ?_; rintro e w2 ⟨rfl, rfl⟩
          go_wp2_with fail
          go_roundw
          case rel => exact ⟨j + 1, by omega, by go_num, hb, Lib.hid (fun _ => by
            rw [← HF.out (by omega), HD.out.1, ← HD.out.2.2, markFrom, if_neg (by simp [HL.out])])⟩
          case measure => simp [intOf]; omega
    · obtain rfl : j = 15 := by omega
      go_wp2_with fail
      go_ret
      refine ⟨?_, hb1.out.trans (hb.mono hb1.out.size)⟩
      rw [← HF.out (by omega)]; rfl
end Go.Proofs.YtkkeocnnecegbaaGreatDoor
