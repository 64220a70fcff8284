/- The walks over the reference's number and one: the token at a place. By an AI agent. -/
import Derived.Test.YtdbkchngpbahaaaDoorRefA
import Derived.Test.YtdbkchngpbahaaaDoorWalkF
import Derived.Deep.RegionHeld3
namespace Go.Proofs.YtdbkchngpbahaaaDoor
open Go.RowKit

def NumOut (l : List UInt8) (e : Ending) : Prop :=
  match numS l with
  | some v => e = .returned (.tuple #[.int .i64 v, .bool true])
  | none => ∃ v : Int, e = .returned (.tuple #[.int .i64 v, .bool false])
theorem numOut_no {l : List UInt8} {e : Ending} {v : Int} (h : numS l = none) (he : e = .returned (.tuple #[.int .i64 v, .bool false])) : NumOut l e := by
  unfold NumOut; rw [h]; exact ⟨v, he⟩
theorem numOut_yes {l : List UInt8} {e : Ending} {v : Int} (h : numS l = some v) (he : e = .returned (.tuple #[.int .i64 v, .bool true])) : NumOut l e := by
  unfold NumOut; rw [h]; exact he
theorem drop_byte (s : ByteArray) (k : Nat) (h : k < s.size) : s.data.toList.drop k = s[k] :: s.data.toList.drop (k + 1) := by
  rw [List.drop_eq_getElem_cons (by rw [len_eq]; exact h), byte_at s k h]

set_option maxHeartbeats 1000000 in
theorem number_any (s : ByteArray) (w : World) (hne : 0 < s.size) (hs : s.size ≤ 1000000) (hdg : ∀ c ∈ s.data.toList, isDig c = true) :
    Calls Tryd.prog 41 #[.string s] w fun e w' => NumOut s.data.toList e ∧ Below w.heap.size w w' := by
  have HDG := Lib.hid hdg; clear hdg
  go_enter Tryd.func41, Tryd.ntmps41
  go_wp2_with fail
  go_loop [4, 5] (fun n i => ∃ k v : Nat, k ≤ s.size ∧ i = .int .i64 k ∧ n = .int .i64 v ∧ v ≤ 2147483647 ∧ Hid (Lib.parseUintM 2147483647 0 s.data.toList = Lib.parseUintM 2147483647 v (s.data.toList.drop k))) (fun _ i => s.size - (intOf i).toNat)
  case atStart => exact ⟨0, 0, Nat.zero_le _, rfl, rfl, by omega, Lib.hid rfl⟩
  case round =>
    obtain ⟨k, v, hk, rfl, rfl, hv, HP⟩ := hrel
    by_cases hlt : k < s.size
    · have hd := drop_byte s k hlt
      have hmem : s[k] ∈ s.data.toList := by
        have : s[k] ∈ s.data.toList.drop k := by rw [hd]; exact List.mem_cons_self ..
        exact List.mem_of_mem_drop this
      have hc := HDG.out _ hmem
      have HD := Lib.hid hd
      clear hd hmem
      generalize hch : s[k]'hlt = c at *
      rw [isDig_int] at hc
      simp only [Bool.and_eq_true, decide_eq_true_eq] at hc
      obtain ⟨hc1, hc2⟩ := hc
      have hwr : IntKind.u8.wrap ((c.toNat : Int) - 48) = (c.toNat : Int) - 48 := by rw [IntKind.wrap_u8]; omega
      have HPC : Hid (Lib.parseUintM 2147483647 v (s.data.toList.drop k) = if 2147483647 < v * 10 + (c.toNat - 48) then .range else Lib.parseUintM 2147483647 (v * 10 + (c.toNat - 48)) (s.data.toList.drop (k + 1))) := Lib.hid (by
        rw [HD.out, Lib.parseUintM, if_pos (by omega), if_neg (by omega)])
      have hk0 : (0 : Int) ≤ (k : Int) := by omega
      have hk1 : (k : Int) < (s.size : Int) := by omega
      by_cases hov : 2147483647 < v * 10 + (c.toNat - 48)
      · have hov' : (2147483647 : Int) < (v : Int) * 10 + ((c.toNat : Int) - 48) := by omega
        go_wp2_with fail
        go_ret2
        refine ⟨numOut_no ?_ rfl, Below.refl _ _⟩
        rw [numS, HP.out, HPC.out, if_pos hov]
      · have hov' : ¬ (2147483647 : Int) < (v : Int) * 10 + ((c.toNat : Int) - 48) := by omega
        go_wp2_with fail
        go_round
        case rel => exact ⟨k + 1, v * 10 + (c.toNat - 48), by omega, by go_num, by congr 1; omega, by omega, Lib.hid (by rw [HP.out, HPC.out, if_neg hov])⟩
        case measure => simp [intOf]; omega
    · obtain rfl : k = s.size := by omega
      have hnil : s.data.toList.drop s.size = [] := List.drop_eq_nil_of_le (by rw [len_eq]; exact Nat.le_refl _)
      have hnum : numS s.data.toList = if s.data.toList ≠ [48] ∧ s.data.toList.head? = some 48 then none else some (v : Int) := by
        rw [numS, HP.out, hnil]; rfl
      have HNUM := Lib.hid hnum
      obtain ⟨r, hr⟩ := head_of s hne
      have HR := Lib.hid hr
      have hne' : (0 : Int) < (s.size : Int) := by omega
      have hll := len_eq s
      have HLL := Lib.hid hll
      clear hnil hnum hr hlt hk hll
      by_cases h1 : s.size = 1
      · have h1' : ((s.size : Int) == 1) = true := by rw [h1]; rfl
        have H1 := Lib.hid h1; clear h1
        go_wp2_with fail
        go_quiet (fail)
        go_wp2_with fail
        go_ret2
        refine ⟨numOut_yes ?_ rfl, below_drewN _ _⟩
        have hrn : r = [] := by
          have := HLL.out; rw [HR.out, H1.out] at this; simpa using this
        rw [HNUM.out, if_neg]
        rintro ⟨ha, hb⟩
        apply ha
        rw [HR.out, hrn] at hb ⊢
        simp at hb
        rw [hb]
      · have h1' : ((s.size : Int) == 1) = false := by rw [beq_eq_false_iff_ne]; omega
        have H1 := Lib.hid h1; clear h1
        generalize hch : s[0]'hne = c at HR
        by_cases hc : c = 48
        · subst hc
          go_wp2_with fail
          go_quiet (fail)
          go_wp2_with fail
          go_ret2
          refine ⟨numOut_no ?_ rfl, below_drewN _ _⟩
          rw [HNUM.out, if_pos]
          refine ⟨fun e => H1.out ?_, by rw [HR.out]; rfl⟩
          have := HLL.out; rw [e] at this; exact this.symm
        · have hcn : ((c.toNat : Int) != 48) = true := by
            rw [bne_iff_ne]
            intro e; apply hc; rw [← UInt8.toNat_inj]; simp; omega
          have HC := Lib.hid hc; clear hc
          go_wp2_with fail
          go_quiet (fail)
          go_wp2_with fail
          go_ret2
          refine ⟨numOut_yes ?_ rfl, below_drewN _ _⟩
          rw [HNUM.out, if_neg]
          rintro ⟨_, hb⟩
          rw [HR.out] at hb
          exact HC.out (by simpa using hb)
end Go.Proofs.YtdbkchngpbahaaaDoor
