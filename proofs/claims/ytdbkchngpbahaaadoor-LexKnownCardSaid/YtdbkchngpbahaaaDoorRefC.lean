/- The walk over the reference's one: the token at a place, or its error. By an AI agent. -/
import Derived.Test.YtdbkchngpbahaaaDoorRefB
namespace Go.Proofs.YtdbkchngpbahaaaDoor
open Go.RowKit

def OneOut (l : List UInt8) (p : Nat) (e : Ending) : Prop :=
  match tokAt l with
  | .ok (k, n, v) => e = .returned (.tuple #[.agg #[.int .u8 k, .string ⟨(l.take n).toArray⟩, .int .i64 v, .int .i64 p], .int .i64 0])
  | .error er => e = .returned (.tuple #[.agg #[.int .u8 0, .string ⟨#[]⟩, .int .i64 0, .int .i64 0], .int .i64 er])
theorem words_b (w : World) : Calls Tryd.prog 32 #[] w fun e w' => ∃ b, e = .returned (.slice (some ⟨b, 0, none⟩) wordL.length wordL.length) ∧ StrAt w' b wordL ∧ w' = w.alloc (.cells (strL wordL).toArray 9) :=
  (words_any w).mono (by rintro e w' ⟨rfl, rfl⟩; exact ⟨_, rfl, strAt_new _ _, rfl⟩)
theorem marks_b (w : World) : Calls Tryd.prog 42 #[] w fun e w' => ∃ b, e = .returned (.slice (some ⟨b, 0, none⟩) marksL.length marksL.length) ∧ StrAt w' b marksL ∧ w' = w.alloc (.cells (strL marksL).toArray 9) :=
  (marks_any w).mono (by rintro e w' ⟨rfl, rfl⟩; exact ⟨_, rfl, strAt_new _ _, rfl⟩)
theorem among_v (s : ByteArray) (b n c : Nat) (L : List (List UInt8)) (v : Bool) (w : World) (hL : StrAt w b L) (hn : L.length = n) (h : n ≤ 1000000) (hv : decide (s.data.toList ∈ L) = v) :
    Calls Tryd.prog 31 #[.string s, .slice (some ⟨b, 0, none⟩) n c] w fun e w' => e = .returned (.bool v) ∧ w = w' := by
  subst hn hv; exact among_any s b c L w h hL
theorem let_dig {c : UInt8} (h : isLet c = true) : isDig c = false := by
  rw [isLet_int] at h
  rw [isDig_int]
  simp only [Bool.or_eq_true, Bool.and_eq_true, decide_eq_true_eq] at h
  rw [Bool.and_eq_false_iff, decide_eq_false_iff_not, decide_eq_false_iff_not]
  omega
/-- Where the bytes of a set end behind a place. -/
theorem manyS_from {p : UInt8 → Bool} {l : List UInt8} {q m : Nat} (hq : q ≤ m) (hm : m ≤ l.length) (hall : ∀ j (h : j < l.length), q ≤ j → j < m → p l[j] = true) (hno : ∀ h : m < l.length, p l[m] = false) : manyS p (l.drop q) = m - q := by
  by_cases h : m < l.length
  · exact manyS_at (by rw [List.length_drop]; omega) (fun i hi hik => by rw [List.getElem_drop]; exact hall (q + i) (by rw [List.length_drop] at hi; omega) (by omega) (by omega)) (by
      rw [List.getElem_drop]
      have := hno h
      have e : q + (m - q) = m := by omega
      simp only [e]; exact this)
  · have : m = l.length := by omega
    subst this
    rw [manyS_all (fun i hi => by rw [List.getElem_drop]; exact hall (q + i) (by rw [List.length_drop] at hi; omega) (by omega) (by rw [List.length_drop] at hi; omega)), List.length_drop]

theorem marks_mem (l : List UInt8) : decide (l ∈ marksL) = isMarkS l := by
  match l with
  | [] => decide
  | [c] => rw [Bool.eq_iff_iff]; simp [marksL, isMarkS, mark2L, markL]
  | [c, d] => rw [Bool.eq_iff_iff]; simp [marksL, isMarkS, mark2L]
  | c :: d :: e :: r => simp [marksL, isMarkS, mark2L]
theorem all_from {p : UInt8 → Bool} {l : List UInt8} {q m : Nat} (hall : ∀ j (h : j < l.length), q ≤ j → j < m → p l[j] = true) : ∀ c ∈ (l.drop q).take (m - q), p c = true := by
  intro c hc
  obtain ⟨i, hi, rfl⟩ := List.mem_iff_getElem.1 hc
  rw [List.length_take, List.length_drop] at hi
  rw [List.getElem_take, List.getElem_drop]
  exact hall (q + i) (by omega) (by omega) (by omega)
theorem oneOut_ok {l : List UInt8} {p k n : Nat} {v : Int} {T : ByteArray} {e : Ending} (h : tokAt l = .ok (k, n, v)) (hT : T = ⟨(l.take n).toArray⟩) (he : e = .returned (.tuple #[.agg #[.int .u8 k, .string T, .int .i64 v, .int .i64 p], .int .i64 0])) : OneOut l p e := by
  subst hT; unfold OneOut; rw [h]; exact he
theorem oneOut_no {l : List UInt8} {p : Nat} {er : Int} {e : Ending} (h : tokAt l = .error er) (he : e = .returned (.tuple #[.agg #[.int .u8 0, .string ⟨#[]⟩, .int .i64 0, .int .i64 0], .int .i64 er])) : OneOut l p e := by
  unfold OneOut; rw [h]; exact he

set_option maxRecDepth 100000 in
set_option maxHeartbeats 16000000 in
theorem one_let (s : ByteArray) (p : Nat) (w : World) (hp : p < s.size) (hs : s.size ≤ 1000000) (hlc : isLet s[p] = true) :
    Calls Tryd.prog 24 #[.string s, .int .i64 p] w fun e w' => OneOut (s.data.toList.drop p) p e ∧ Below w.heap.size w w' := by
  have hd := drop_byte s p hp
  generalize hch : s[p]'hp = c at *
  have HD := Lib.hid hd
  have HC := Lib.hid hlc
  have HDC := Lib.hid (let_dig hlc)
  clear hlc hd
  have hp0 : (0 : Int) ≤ (p : Int) := by omega
  have hp1 : (p : Int) < (s.size : Int) := by omega
  go_enter Tryd.func24, Tryd.ntmps24
  go_wp2_with fail
  refine (rletter_any c _).mono ?_; rw [HC.out]; rintro e w' ⟨rfl, rfl⟩
  clear hch
  go_wp2_with fail
  go_loop [7] (fun n => ∃ m : Nat, p ≤ m ∧ m ≤ s.size ∧ n = .int .i64 m ∧ Hid (∀ j (h : j < s.data.toList.length), p ≤ j → j < m → isWd s.data.toList[j] = true)) (fun n => s.size - (intOf n).toNat)
  case atStart => exact ⟨p, Nat.le_refl _, by omega, rfl, Lib.hid (fun j _ h1 h2 => by omega)⟩
  case round =>
    obtain ⟨m, hm1, hm2, rfl, HALL⟩ := hrel
    by_cases hlt : m < s.size ∧ isWd s[m]! = true
    · obtain ⟨hlt, hw⟩ := hlt
      have e! : s[m]! = s[m] := getElem!_pos s m hlt
      rw [e!] at hw
      have HB := Lib.hid (byte_at s m hlt)
      have HW := Lib.hid hw
      clear hw e!
      have hm0 : (0 : Int) ≤ (m : Int) := by omega
      have hml : (m : Int) < (s.size : Int) := by omega
      cases hdg : isDig s[m]
      · have HDG := Lib.hid hdg; clear hdg
        have HL : Hid (isLet s[m] = true) := Lib.hid (by have := HW.out; unfold isWd at this; rw [HDG.out, Bool.or_false] at this; exact this)
        go_wp2_with fail
        refine (rdigit_any s[m] _).mono ?_; rw [HDG.out]; rintro e w' ⟨rfl, rfl⟩
        go_wp2_with fail
        refine (rletter_any c _).mono ?_; rw [HC.out]; rintro e w' ⟨rfl, rfl⟩
        go_wp2_with fail
        refine (rletter_any s[m] _).mono ?_; rw [HL.out]; rintro e w' ⟨rfl, rfl⟩
        go_wp2_with fail
        go_round
        case rel => exact ⟨m + 1, by omega, by omega, by go_num, Lib.hid (fun j h h1 h2 => by
          by_cases hjm : j = m
          · subst hjm; rw [HB.out]; exact HW.out
          · exact HALL.out j h h1 (by omega))⟩
        case measure => simp [intOf]; omega
      · have HDG := Lib.hid hdg; clear hdg
        go_wp2_with fail
        refine (rdigit_any s[m] _).mono ?_; rw [HDG.out]; rintro e w' ⟨rfl, rfl⟩
        go_wp2_with fail
        go_round
        case rel => exact ⟨m + 1, by omega, by omega, by go_num, Lib.hid (fun j h h1 h2 => by
          by_cases hjm : j = m
          · subst hjm; rw [HB.out]; exact HW.out
          · exact HALL.out j h h1 (by omega))⟩
        case measure => simp [intOf]; omega
    · have hmany : manyS isWd (s.data.toList.drop p) = m - p := manyS_from hm1 (by rw [len_eq]; exact hm2) HALL.out (fun h => by
        have hm : m < s.size := by rw [len_eq] at h; exact h
        rw [byte_at s m hm]
        have : ¬ isWd s[m]! = true := fun h => hlt ⟨hm, h⟩
        rw [getElem!_pos s m hm] at this
        simpa using this)
      obtain ⟨T, hT⟩ : ∃ T, T = s.extract p m := ⟨_, rfl⟩
      have hTl : T.data.toList = (s.data.toList.drop p).take (m - p) := by
        rw [hT]; have := ext_mid s p (m - p); rw [show p + (m - p) = m by omega] at this; exact this
      have hTT : T = ⟨((s.data.toList.drop p).take (m - p)).toArray⟩ := by rw [← hTl]
      have HOUT : Hid (tokAt (s.data.toList.drop p) = .ok (if isWordS T.data.toList then 2 else 1, m - p, 0)) := Lib.hid (by
        have h2 : manyS (fun c => isLet c || isDig c) (c :: s.data.toList.drop (p + 1)) = m - p := by rw [← HD.out]; exact hmany
        rw [hTl, HD.out]
        simp only [tokAt, HC.out, if_true, h2])
      have HTT := Lib.hid hTT
      clear hmany hTl hTT
      have hm0 : (p : Int) ≤ (m : Int) := by omega
      have hml : (m : Int) ≤ (s.size : Int) := by omega
      cases hwd : isWordS T.data.toList
      · have hv : decide (T.data.toList ∈ wordL) = false := hwd
        have HV := Lib.hid hv
        have HWD := Lib.hid hwd
        clear hv hwd
        by_cases hms : m < s.size
        · skip
          have HNL : Hid (isLet s[m] = false ∧ isDig s[m] = false) := Lib.hid (by
            have : ¬ isWd s[m]! = true := fun h => hlt ⟨hms, h⟩
            rw [getElem!_pos s m hms] at this
            unfold isWd at this
            simpa using this)
          clear hlt
          have hm00 : (0 : Int) ≤ (m : Int) := by omega
          have hmll : (m : Int) < (s.size : Int) := by omega
          go_wp2_with fail
          refine (rdigit_any s[m] _).mono ?_; rw [HNL.out.2]; rintro e w' ⟨rfl, rfl⟩
          go_wp2_with fail
          refine (rletter_any c _).mono ?_; rw [HC.out]; rintro e w' ⟨rfl, rfl⟩
          go_wp2_with fail
          refine (rletter_any s[m] _).mono ?_; rw [HNL.out.1]; rintro e w' ⟨rfl, rfl⟩
          go_wp2_with fail
          rw [← hT]
          clear hT
          refine (rdigit_any c _).mono ?_; rw [HDC.out]; rintro e w' ⟨rfl, rfl⟩
          go_wp2_with fail
          go_region_held3 (fun W => W.cell? ⟨w.heap.size + 1, 1, none⟩ = some (.string T)) (go_keep)
            (first
              | (go_at_call 32; refine (words_b _).mono ?_; rintro e w1 ⟨bw, rfl, hst, rfl⟩)
              | (go_at_call 31; refine (among_v T _ _ _ wordL false _ (by assumption) (by rfl) (by decide) HV.out).mono ?_; rintro e w1 ⟨rfl, rfl⟩))
          have RB : Hid (Blk (((w.alloc (.cells #[.int .u8 0, .string ⟨#[]⟩, .int .i64 0, .int .i64 0] 39)).alloc (.cells #[Value.int .u8 1, Value.string T, Value.int .i64 0, Value.int .i64 p] 39)).alloc (.cells (strL wordL).toArray 9)).drew w.heap.size 39 #[.int .u8 0, .string ⟨#[]⟩, .int .i64 0, .int .i64 0]) := Lib.hid (((Blk.new w 39 #[.int .u8 0, .string ⟨#[]⟩, .int .i64 0, .int .i64 0]).alloc (.cells #[Value.int .u8 1, Value.string T, Value.int .i64 0, Value.int .i64 p] 39)).alloc (.cells (strL wordL).toArray 9))
          have TB : Hid (Blk (((w.alloc (.cells #[.int .u8 0, .string ⟨#[]⟩, .int .i64 0, .int .i64 0] 39)).alloc (.cells #[Value.int .u8 1, Value.string T, Value.int .i64 0, Value.int .i64 p] 39)).alloc (.cells (strL wordL).toArray 9)).drew (w.heap.size + 1) 39 #[Value.int .u8 1, Value.string T, Value.int .i64 0, Value.int .i64 p]) := Lib.hid (by
            have h := (Blk.new (w.alloc (.cells #[.int .u8 0, .string ⟨#[]⟩, .int .i64 0, .int .i64 0] 39)) 39 #[Value.int .u8 1, Value.string T, Value.int .i64 0, Value.int .i64 p]).alloc (.cells (strL wordL).toArray 9)
            rw [World.size_alloc] at h; exact h)
          have HB : Hid (Below w.heap.size w (((w.alloc (.cells #[.int .u8 0, .string ⟨#[]⟩, .int .i64 0, .int .i64 0] 39)).alloc (.cells #[Value.int .u8 1, Value.string T, Value.int .i64 0, Value.int .i64 p] 39)).alloc (.cells (strL wordL).toArray 9)).drew) := Lib.hid (((((Below.refl w.heap.size w).alloc (Nat.le_refl _) _).alloc (by simp) _).alloc (by simp; omega) _).drew)
          clear hst
          generalize (((w.alloc (.cells #[.int .u8 0, .string ⟨#[]⟩, .int .i64 0, .int .i64 0] 39)).alloc (.cells #[Value.int .u8 1, Value.string T, Value.int .i64 0, Value.int .i64 p] 39)).alloc (.cells (strL wordL).toArray 9)).drew = W3 at *
          have t0 : W3.cell? ⟨w.heap.size + 1, 0, none⟩ = some (Value.int .u8 1) := TB.out.cell 0
          have t1 : W3.cell? ⟨w.heap.size + 1, 1, none⟩ = some (Value.string T) := TB.out.cell 1
          have t2 : W3.cell? ⟨w.heap.size + 1, 2, none⟩ = some (Value.int .i64 0) := TB.out.cell 2
          have t3 : W3.cell? ⟨w.heap.size + 1, 3, none⟩ = some (Value.int .i64 p) := TB.out.cell 3
          have r0 : W3.cell? ⟨w.heap.size, 0, none⟩ = some (.int .u8 0) := RB.out.cell 0
          have r1 : W3.cell? ⟨w.heap.size, 1, none⟩ = some (.string ⟨#[]⟩) := RB.out.cell 1
          have r2 : W3.cell? ⟨w.heap.size, 2, none⟩ = some (.int .i64 0) := RB.out.cell 2
          have r3 : W3.cell? ⟨w.heap.size, 3, none⟩ = some (.int .i64 0) := RB.out.cell 3
          have q0 := RB.out.free 0
          have q1 := RB.out.free 1
          have q2 := RB.out.free 2
          have q3 := RB.out.free 3
          go_wp2_with fail
          have rF := Lib.hid (((((RB.out.put 0 (Value.int .u8 1)).put 1 (Value.string T)).put 2 (Value.int .i64 0)).put 3 (Value.int .i64 p)) : Blk ((((W3.setCell ⟨w.heap.size, 0, none⟩ (Value.int .u8 1)).setCell ⟨w.heap.size, 1, none⟩ (Value.string T)).setCell ⟨w.heap.size, 2, none⟩ (Value.int .i64 0)).setCell ⟨w.heap.size, 3, none⟩ (Value.int .i64 p)) w.heap.size 39 #[Value.int .u8 1, Value.string T, Value.int .i64 0, Value.int .i64 p])
          have bF := Lib.hid (((((HB.out.setCell (p := ⟨w.heap.size, 0, none⟩) (Nat.le_refl _) (Value.int .u8 1)).setCell (p := ⟨w.heap.size, 1, none⟩) (Nat.le_refl _) (Value.string T)).setCell (p := ⟨w.heap.size, 2, none⟩) (Nat.le_refl _) (Value.int .i64 0)).setCell (p := ⟨w.heap.size, 3, none⟩) (Nat.le_refl _) (Value.int .i64 p)) : Below w.heap.size w ((((W3.setCell ⟨w.heap.size, 0, none⟩ (Value.int .u8 1)).setCell ⟨w.heap.size, 1, none⟩ (Value.string T)).setCell ⟨w.heap.size, 2, none⟩ (Value.int .i64 0)).setCell ⟨w.heap.size, 3, none⟩ (Value.int .i64 p)))
          generalize ((((W3.setCell ⟨w.heap.size, 0, none⟩ (Value.int .u8 1)).setCell ⟨w.heap.size, 1, none⟩ (Value.string T)).setCell ⟨w.heap.size, 2, none⟩ (Value.int .i64 0)).setCell ⟨w.heap.size, 3, none⟩ (Value.int .i64 p)) = WF at *
          have z0 : WF.cell? ⟨w.heap.size, 0, none⟩ = some (Value.int .u8 1) := rF.out.cell 0
          have z1 : WF.cell? ⟨w.heap.size, 1, none⟩ = some (Value.string T) := rF.out.cell 1
          have z2 : WF.cell? ⟨w.heap.size, 2, none⟩ = some (Value.int .i64 0) := rF.out.cell 2
          have z3 : WF.cell? ⟨w.heap.size, 3, none⟩ = some (Value.int .i64 p) := rF.out.cell 3
          refine bodyPost_ret (v := .tuple #[.agg #[Value.int .u8 1, Value.string T, Value.int .i64 0, Value.int .i64 p], .int .i64 0]) ?_ rfl ⟨oneOut_ok (HOUT.out.trans (by rw [HWD.out]; rfl)) HTT.out rfl, bF.out⟩
          simp [results, Tryd.results24, go_sem, z0, z1, z2, z3]
        · skip
          clear hlt
          go_wp2_with fail
          rw [← hT]
          clear hT
          refine (rdigit_any c _).mono ?_; rw [HDC.out]; rintro e w' ⟨rfl, rfl⟩
          go_wp2_with fail
          go_region_held3 (fun W => W.cell? ⟨w.heap.size + 1, 1, none⟩ = some (.string T)) (go_keep)
            (first
              | (go_at_call 32; refine (words_b _).mono ?_; rintro e w1 ⟨bw, rfl, hst, rfl⟩)
              | (go_at_call 31; refine (among_v T _ _ _ wordL false _ (by assumption) (by rfl) (by decide) HV.out).mono ?_; rintro e w1 ⟨rfl, rfl⟩))
          have RB : Hid (Blk (((w.alloc (.cells #[.int .u8 0, .string ⟨#[]⟩, .int .i64 0, .int .i64 0] 39)).alloc (.cells #[Value.int .u8 1, Value.string T, Value.int .i64 0, Value.int .i64 p] 39)).alloc (.cells (strL wordL).toArray 9)).drew w.heap.size 39 #[.int .u8 0, .string ⟨#[]⟩, .int .i64 0, .int .i64 0]) := Lib.hid (((Blk.new w 39 #[.int .u8 0, .string ⟨#[]⟩, .int .i64 0, .int .i64 0]).alloc (.cells #[Value.int .u8 1, Value.string T, Value.int .i64 0, Value.int .i64 p] 39)).alloc (.cells (strL wordL).toArray 9))
          have TB : Hid (Blk (((w.alloc (.cells #[.int .u8 0, .string ⟨#[]⟩, .int .i64 0, .int .i64 0] 39)).alloc (.cells #[Value.int .u8 1, Value.string T, Value.int .i64 0, Value.int .i64 p] 39)).alloc (.cells (strL wordL).toArray 9)).drew (w.heap.size + 1) 39 #[Value.int .u8 1, Value.string T, Value.int .i64 0, Value.int .i64 p]) := Lib.hid (by
            have h := (Blk.new (w.alloc (.cells #[.int .u8 0, .string ⟨#[]⟩, .int .i64 0, .int .i64 0] 39)) 39 #[Value.int .u8 1, Value.string T, Value.int .i64 0, Value.int .i64 p]).alloc (.cells (strL wordL).toArray 9)
            rw [World.size_alloc] at h; exact h)
          have HB : Hid (Below w.heap.size w (((w.alloc (.cells #[.int .u8 0, .string ⟨#[]⟩, .int .i64 0, .int .i64 0] 39)).alloc (.cells #[Value.int .u8 1, Value.string T, Value.int .i64 0, Value.int .i64 p] 39)).alloc (.cells (strL wordL).toArray 9)).drew) := Lib.hid (((((Below.refl w.heap.size w).alloc (Nat.le_refl _) _).alloc (by simp) _).alloc (by simp; omega) _).drew)
          clear hst
          generalize (((w.alloc (.cells #[.int .u8 0, .string ⟨#[]⟩, .int .i64 0, .int .i64 0] 39)).alloc (.cells #[Value.int .u8 1, Value.string T, Value.int .i64 0, Value.int .i64 p] 39)).alloc (.cells (strL wordL).toArray 9)).drew = W3 at *
          have t0 : W3.cell? ⟨w.heap.size + 1, 0, none⟩ = some (Value.int .u8 1) := TB.out.cell 0
          have t1 : W3.cell? ⟨w.heap.size + 1, 1, none⟩ = some (Value.string T) := TB.out.cell 1
          have t2 : W3.cell? ⟨w.heap.size + 1, 2, none⟩ = some (Value.int .i64 0) := TB.out.cell 2
          have t3 : W3.cell? ⟨w.heap.size + 1, 3, none⟩ = some (Value.int .i64 p) := TB.out.cell 3
          have r0 : W3.cell? ⟨w.heap.size, 0, none⟩ = some (.int .u8 0) := RB.out.cell 0
          have r1 : W3.cell? ⟨w.heap.size, 1, none⟩ = some (.string ⟨#[]⟩) := RB.out.cell 1
          have r2 : W3.cell? ⟨w.heap.size, 2, none⟩ = some (.int .i64 0) := RB.out.cell 2
          have r3 : W3.cell? ⟨w.heap.size, 3, none⟩ = some (.int .i64 0) := RB.out.cell 3
          have q0 := RB.out.free 0
          have q1 := RB.out.free 1
          have q2 := RB.out.free 2
          have q3 := RB.out.free 3
          go_wp2_with fail
          have rF := Lib.hid (((((RB.out.put 0 (Value.int .u8 1)).put 1 (Value.string T)).put 2 (Value.int .i64 0)).put 3 (Value.int .i64 p)) : Blk ((((W3.setCell ⟨w.heap.size, 0, none⟩ (Value.int .u8 1)).setCell ⟨w.heap.size, 1, none⟩ (Value.string T)).setCell ⟨w.heap.size, 2, none⟩ (Value.int .i64 0)).setCell ⟨w.heap.size, 3, none⟩ (Value.int .i64 p)) w.heap.size 39 #[Value.int .u8 1, Value.string T, Value.int .i64 0, Value.int .i64 p])
          have bF := Lib.hid (((((HB.out.setCell (p := ⟨w.heap.size, 0, none⟩) (Nat.le_refl _) (Value.int .u8 1)).setCell (p := ⟨w.heap.size, 1, none⟩) (Nat.le_refl _) (Value.string T)).setCell (p := ⟨w.heap.size, 2, none⟩) (Nat.le_refl _) (Value.int .i64 0)).setCell (p := ⟨w.heap.size, 3, none⟩) (Nat.le_refl _) (Value.int .i64 p)) : Below w.heap.size w ((((W3.setCell ⟨w.heap.size, 0, none⟩ (Value.int .u8 1)).setCell ⟨w.heap.size, 1, none⟩ (Value.string T)).setCell ⟨w.heap.size, 2, none⟩ (Value.int .i64 0)).setCell ⟨w.heap.size, 3, none⟩ (Value.int .i64 p)))
          generalize ((((W3.setCell ⟨w.heap.size, 0, none⟩ (Value.int .u8 1)).setCell ⟨w.heap.size, 1, none⟩ (Value.string T)).setCell ⟨w.heap.size, 2, none⟩ (Value.int .i64 0)).setCell ⟨w.heap.size, 3, none⟩ (Value.int .i64 p)) = WF at *
          have z0 : WF.cell? ⟨w.heap.size, 0, none⟩ = some (Value.int .u8 1) := rF.out.cell 0
          have z1 : WF.cell? ⟨w.heap.size, 1, none⟩ = some (Value.string T) := rF.out.cell 1
          have z2 : WF.cell? ⟨w.heap.size, 2, none⟩ = some (Value.int .i64 0) := rF.out.cell 2
          have z3 : WF.cell? ⟨w.heap.size, 3, none⟩ = some (Value.int .i64 p) := rF.out.cell 3
          refine bodyPost_ret (v := .tuple #[.agg #[Value.int .u8 1, Value.string T, Value.int .i64 0, Value.int .i64 p], .int .i64 0]) ?_ rfl ⟨oneOut_ok (HOUT.out.trans (by rw [HWD.out]; rfl)) HTT.out rfl, bF.out⟩
          simp [results, Tryd.results24, go_sem, z0, z1, z2, z3]
      · have hv : decide (T.data.toList ∈ wordL) = true := hwd
        have HV := Lib.hid hv
        have HWD := Lib.hid hwd
        clear hv hwd
        by_cases hms : m < s.size
        · skip
          have HNL : Hid (isLet s[m] = false ∧ isDig s[m] = false) := Lib.hid (by
            have : ¬ isWd s[m]! = true := fun h => hlt ⟨hms, h⟩
            rw [getElem!_pos s m hms] at this
            unfold isWd at this
            simpa using this)
          clear hlt
          have hm00 : (0 : Int) ≤ (m : Int) := by omega
          have hmll : (m : Int) < (s.size : Int) := by omega
          go_wp2_with fail
          refine (rdigit_any s[m] _).mono ?_; rw [HNL.out.2]; rintro e w' ⟨rfl, rfl⟩
          go_wp2_with fail
          refine (rletter_any c _).mono ?_; rw [HC.out]; rintro e w' ⟨rfl, rfl⟩
          go_wp2_with fail
          refine (rletter_any s[m] _).mono ?_; rw [HNL.out.1]; rintro e w' ⟨rfl, rfl⟩
          go_wp2_with fail
          rw [← hT]
          clear hT
          refine (rdigit_any c _).mono ?_; rw [HDC.out]; rintro e w' ⟨rfl, rfl⟩
          go_wp2_with fail
          go_region_held3 (fun W => W.cell? ⟨w.heap.size + 1, 1, none⟩ = some (.string T)) (go_keep)
            (first
              | (go_at_call 32; refine (words_b _).mono ?_; rintro e w1 ⟨bw, rfl, hst, rfl⟩)
              | (go_at_call 31; refine (among_v T _ _ _ wordL true _ (by assumption) (by rfl) (by decide) HV.out).mono ?_; rintro e w1 ⟨rfl, rfl⟩))
          have RB : Hid (Blk (((w.alloc (.cells #[.int .u8 0, .string ⟨#[]⟩, .int .i64 0, .int .i64 0] 39)).alloc (.cells #[Value.int .u8 1, Value.string T, Value.int .i64 0, Value.int .i64 p] 39)).alloc (.cells (strL wordL).toArray 9)).drew w.heap.size 39 #[.int .u8 0, .string ⟨#[]⟩, .int .i64 0, .int .i64 0]) := Lib.hid (((Blk.new w 39 #[.int .u8 0, .string ⟨#[]⟩, .int .i64 0, .int .i64 0]).alloc (.cells #[Value.int .u8 1, Value.string T, Value.int .i64 0, Value.int .i64 p] 39)).alloc (.cells (strL wordL).toArray 9))
          have TB : Hid (Blk (((w.alloc (.cells #[.int .u8 0, .string ⟨#[]⟩, .int .i64 0, .int .i64 0] 39)).alloc (.cells #[Value.int .u8 1, Value.string T, Value.int .i64 0, Value.int .i64 p] 39)).alloc (.cells (strL wordL).toArray 9)).drew (w.heap.size + 1) 39 #[Value.int .u8 1, Value.string T, Value.int .i64 0, Value.int .i64 p]) := Lib.hid (by
            have h := (Blk.new (w.alloc (.cells #[.int .u8 0, .string ⟨#[]⟩, .int .i64 0, .int .i64 0] 39)) 39 #[Value.int .u8 1, Value.string T, Value.int .i64 0, Value.int .i64 p]).alloc (.cells (strL wordL).toArray 9)
            rw [World.size_alloc] at h; exact h)
          have HB : Hid (Below w.heap.size w (((w.alloc (.cells #[.int .u8 0, .string ⟨#[]⟩, .int .i64 0, .int .i64 0] 39)).alloc (.cells #[Value.int .u8 1, Value.string T, Value.int .i64 0, Value.int .i64 p] 39)).alloc (.cells (strL wordL).toArray 9)).drew) := Lib.hid (((((Below.refl w.heap.size w).alloc (Nat.le_refl _) _).alloc (by simp) _).alloc (by simp; omega) _).drew)
          clear hst
          generalize (((w.alloc (.cells #[.int .u8 0, .string ⟨#[]⟩, .int .i64 0, .int .i64 0] 39)).alloc (.cells #[Value.int .u8 1, Value.string T, Value.int .i64 0, Value.int .i64 p] 39)).alloc (.cells (strL wordL).toArray 9)).drew = W3 at *
          have t0 : W3.cell? ⟨w.heap.size + 1, 0, none⟩ = some (.int .u8 1) := TB.out.cell 0
          have f0 := TB.out.free 0
          go_upto_region 15 with fail
          have TB4 := Lib.hid (TB.out.put 0 (.int .u8 2) : Blk (W3.setCell ⟨w.heap.size + 1, 0, none⟩ (.int .u8 2)) (w.heap.size + 1) 39 #[Value.int .u8 2, Value.string T, Value.int .i64 0, Value.int .i64 p])
          have RB4 := Lib.hid (RB.out.far (by omega) 0 (.int .u8 2) : Blk (W3.setCell ⟨w.heap.size + 1, 0, none⟩ (.int .u8 2)) w.heap.size 39 #[.int .u8 0, .string ⟨#[]⟩, .int .i64 0, .int .i64 0])
          have HB4 := Lib.hid (HB.out.setCell (p := ⟨w.heap.size + 1, 0, none⟩) (Nat.le_succ _) (.int .u8 2))
          clear t0 f0 TB RB HB
          generalize (W3.setCell ⟨w.heap.size + 1, 0, none⟩ (.int .u8 2)) = W4 at *
          have TB := TB4; have RB := RB4; have HB := HB4
          clear TB4 RB4 HB4
          have t0 : W4.cell? ⟨w.heap.size + 1, 0, none⟩ = some (Value.int .u8 2) := TB.out.cell 0
          have t1 : W4.cell? ⟨w.heap.size + 1, 1, none⟩ = some (Value.string T) := TB.out.cell 1
          have t2 : W4.cell? ⟨w.heap.size + 1, 2, none⟩ = some (Value.int .i64 0) := TB.out.cell 2
          have t3 : W4.cell? ⟨w.heap.size + 1, 3, none⟩ = some (Value.int .i64 p) := TB.out.cell 3
          have r0 : W4.cell? ⟨w.heap.size, 0, none⟩ = some (.int .u8 0) := RB.out.cell 0
          have r1 : W4.cell? ⟨w.heap.size, 1, none⟩ = some (.string ⟨#[]⟩) := RB.out.cell 1
          have r2 : W4.cell? ⟨w.heap.size, 2, none⟩ = some (.int .i64 0) := RB.out.cell 2
          have r3 : W4.cell? ⟨w.heap.size, 3, none⟩ = some (.int .i64 0) := RB.out.cell 3
          have q0 := RB.out.free 0
          have q1 := RB.out.free 1
          have q2 := RB.out.free 2
          have q3 := RB.out.free 3
          go_wp2_with fail
          have rF := Lib.hid (((((RB.out.put 0 (Value.int .u8 2)).put 1 (Value.string T)).put 2 (Value.int .i64 0)).put 3 (Value.int .i64 p)) : Blk ((((W4.setCell ⟨w.heap.size, 0, none⟩ (Value.int .u8 2)).setCell ⟨w.heap.size, 1, none⟩ (Value.string T)).setCell ⟨w.heap.size, 2, none⟩ (Value.int .i64 0)).setCell ⟨w.heap.size, 3, none⟩ (Value.int .i64 p)) w.heap.size 39 #[Value.int .u8 2, Value.string T, Value.int .i64 0, Value.int .i64 p])
          have bF := Lib.hid (((((HB.out.setCell (p := ⟨w.heap.size, 0, none⟩) (Nat.le_refl _) (Value.int .u8 2)).setCell (p := ⟨w.heap.size, 1, none⟩) (Nat.le_refl _) (Value.string T)).setCell (p := ⟨w.heap.size, 2, none⟩) (Nat.le_refl _) (Value.int .i64 0)).setCell (p := ⟨w.heap.size, 3, none⟩) (Nat.le_refl _) (Value.int .i64 p)) : Below w.heap.size w ((((W4.setCell ⟨w.heap.size, 0, none⟩ (Value.int .u8 2)).setCell ⟨w.heap.size, 1, none⟩ (Value.string T)).setCell ⟨w.heap.size, 2, none⟩ (Value.int .i64 0)).setCell ⟨w.heap.size, 3, none⟩ (Value.int .i64 p)))
          generalize ((((W4.setCell ⟨w.heap.size, 0, none⟩ (Value.int .u8 2)).setCell ⟨w.heap.size, 1, none⟩ (Value.string T)).setCell ⟨w.heap.size, 2, none⟩ (Value.int .i64 0)).setCell ⟨w.heap.size, 3, none⟩ (Value.int .i64 p)) = WF at *
          have z0 : WF.cell? ⟨w.heap.size, 0, none⟩ = some (Value.int .u8 2) := rF.out.cell 0
          have z1 : WF.cell? ⟨w.heap.size, 1, none⟩ = some (Value.string T) := rF.out.cell 1
          have z2 : WF.cell? ⟨w.heap.size, 2, none⟩ = some (Value.int .i64 0) := rF.out.cell 2
          have z3 : WF.cell? ⟨w.heap.size, 3, none⟩ = some (Value.int .i64 p) := rF.out.cell 3
          refine bodyPost_ret (v := .tuple #[.agg #[Value.int .u8 2, Value.string T, Value.int .i64 0, Value.int .i64 p], .int .i64 0]) ?_ rfl ⟨oneOut_ok (HOUT.out.trans (by rw [HWD.out]; rfl)) HTT.out rfl, bF.out⟩
          simp [results, Tryd.results24, go_sem, z0, z1, z2, z3]
        · skip
          clear hlt
          go_wp2_with fail
          rw [← hT]
          clear hT
          refine (rdigit_any c _).mono ?_; rw [HDC.out]; rintro e w' ⟨rfl, rfl⟩
          go_wp2_with fail
          go_region_held3 (fun W => W.cell? ⟨w.heap.size + 1, 1, none⟩ = some (.string T)) (go_keep)
            (first
              | (go_at_call 32; refine (words_b _).mono ?_; rintro e w1 ⟨bw, rfl, hst, rfl⟩)
              | (go_at_call 31; refine (among_v T _ _ _ wordL true _ (by assumption) (by rfl) (by decide) HV.out).mono ?_; rintro e w1 ⟨rfl, rfl⟩))
          have RB : Hid (Blk (((w.alloc (.cells #[.int .u8 0, .string ⟨#[]⟩, .int .i64 0, .int .i64 0] 39)).alloc (.cells #[Value.int .u8 1, Value.string T, Value.int .i64 0, Value.int .i64 p] 39)).alloc (.cells (strL wordL).toArray 9)).drew w.heap.size 39 #[.int .u8 0, .string ⟨#[]⟩, .int .i64 0, .int .i64 0]) := Lib.hid (((Blk.new w 39 #[.int .u8 0, .string ⟨#[]⟩, .int .i64 0, .int .i64 0]).alloc (.cells #[Value.int .u8 1, Value.string T, Value.int .i64 0, Value.int .i64 p] 39)).alloc (.cells (strL wordL).toArray 9))
          have TB : Hid (Blk (((w.alloc (.cells #[.int .u8 0, .string ⟨#[]⟩, .int .i64 0, .int .i64 0] 39)).alloc (.cells #[Value.int .u8 1, Value.string T, Value.int .i64 0, Value.int .i64 p] 39)).alloc (.cells (strL wordL).toArray 9)).drew (w.heap.size + 1) 39 #[Value.int .u8 1, Value.string T, Value.int .i64 0, Value.int .i64 p]) := Lib.hid (by
            have h := (Blk.new (w.alloc (.cells #[.int .u8 0, .string ⟨#[]⟩, .int .i64 0, .int .i64 0] 39)) 39 #[Value.int .u8 1, Value.string T, Value.int .i64 0, Value.int .i64 p]).alloc (.cells (strL wordL).toArray 9)
            rw [World.size_alloc] at h; exact h)
          have HB : Hid (Below w.heap.size w (((w.alloc (.cells #[.int .u8 0, .string ⟨#[]⟩, .int .i64 0, .int .i64 0] 39)).alloc (.cells #[Value.int .u8 1, Value.string T, Value.int .i64 0, Value.int .i64 p] 39)).alloc (.cells (strL wordL).toArray 9)).drew) := Lib.hid (((((Below.refl w.heap.size w).alloc (Nat.le_refl _) _).alloc (by simp) _).alloc (by simp; omega) _).drew)
          clear hst
          generalize (((w.alloc (.cells #[.int .u8 0, .string ⟨#[]⟩, .int .i64 0, .int .i64 0] 39)).alloc (.cells #[Value.int .u8 1, Value.string T, Value.int .i64 0, Value.int .i64 p] 39)).alloc (.cells (strL wordL).toArray 9)).drew = W3 at *
          have t0 : W3.cell? ⟨w.heap.size + 1, 0, none⟩ = some (.int .u8 1) := TB.out.cell 0
          have f0 := TB.out.free 0
          go_upto_region 15 with fail
          have TB4 := Lib.hid (TB.out.put 0 (.int .u8 2) : Blk (W3.setCell ⟨w.heap.size + 1, 0, none⟩ (.int .u8 2)) (w.heap.size + 1) 39 #[Value.int .u8 2, Value.string T, Value.int .i64 0, Value.int .i64 p])
          have RB4 := Lib.hid (RB.out.far (by omega) 0 (.int .u8 2) : Blk (W3.setCell ⟨w.heap.size + 1, 0, none⟩ (.int .u8 2)) w.heap.size 39 #[.int .u8 0, .string ⟨#[]⟩, .int .i64 0, .int .i64 0])
          have HB4 := Lib.hid (HB.out.setCell (p := ⟨w.heap.size + 1, 0, none⟩) (Nat.le_succ _) (.int .u8 2))
          clear t0 f0 TB RB HB
          generalize (W3.setCell ⟨w.heap.size + 1, 0, none⟩ (.int .u8 2)) = W4 at *
          have TB := TB4; have RB := RB4; have HB := HB4
          clear TB4 RB4 HB4
          have t0 : W4.cell? ⟨w.heap.size + 1, 0, none⟩ = some (Value.int .u8 2) := TB.out.cell 0
          have t1 : W4.cell? ⟨w.heap.size + 1, 1, none⟩ = some (Value.string T) := TB.out.cell 1
          have t2 : W4.cell? ⟨w.heap.size + 1, 2, none⟩ = some (Value.int .i64 0) := TB.out.cell 2
          have t3 : W4.cell? ⟨w.heap.size + 1, 3, none⟩ = some (Value.int .i64 p) := TB.out.cell 3
          have r0 : W4.cell? ⟨w.heap.size, 0, none⟩ = some (.int .u8 0) := RB.out.cell 0
          have r1 : W4.cell? ⟨w.heap.size, 1, none⟩ = some (.string ⟨#[]⟩) := RB.out.cell 1
          have r2 : W4.cell? ⟨w.heap.size, 2, none⟩ = some (.int .i64 0) := RB.out.cell 2
          have r3 : W4.cell? ⟨w.heap.size, 3, none⟩ = some (.int .i64 0) := RB.out.cell 3
          have q0 := RB.out.free 0
          have q1 := RB.out.free 1
          have q2 := RB.out.free 2
          have q3 := RB.out.free 3
          go_wp2_with fail
          have rF := Lib.hid (((((RB.out.put 0 (Value.int .u8 2)).put 1 (Value.string T)).put 2 (Value.int .i64 0)).put 3 (Value.int .i64 p)) : Blk ((((W4.setCell ⟨w.heap.size, 0, none⟩ (Value.int .u8 2)).setCell ⟨w.heap.size, 1, none⟩ (Value.string T)).setCell ⟨w.heap.size, 2, none⟩ (Value.int .i64 0)).setCell ⟨w.heap.size, 3, none⟩ (Value.int .i64 p)) w.heap.size 39 #[Value.int .u8 2, Value.string T, Value.int .i64 0, Value.int .i64 p])
          have bF := Lib.hid (((((HB.out.setCell (p := ⟨w.heap.size, 0, none⟩) (Nat.le_refl _) (Value.int .u8 2)).setCell (p := ⟨w.heap.size, 1, none⟩) (Nat.le_refl _) (Value.string T)).setCell (p := ⟨w.heap.size, 2, none⟩) (Nat.le_refl _) (Value.int .i64 0)).setCell (p := ⟨w.heap.size, 3, none⟩) (Nat.le_refl _) (Value.int .i64 p)) : Below w.heap.size w ((((W4.setCell ⟨w.heap.size, 0, none⟩ (Value.int .u8 2)).setCell ⟨w.heap.size, 1, none⟩ (Value.string T)).setCell ⟨w.heap.size, 2, none⟩ (Value.int .i64 0)).setCell ⟨w.heap.size, 3, none⟩ (Value.int .i64 p)))
          generalize ((((W4.setCell ⟨w.heap.size, 0, none⟩ (Value.int .u8 2)).setCell ⟨w.heap.size, 1, none⟩ (Value.string T)).setCell ⟨w.heap.size, 2, none⟩ (Value.int .i64 0)).setCell ⟨w.heap.size, 3, none⟩ (Value.int .i64 p)) = WF at *
          have z0 : WF.cell? ⟨w.heap.size, 0, none⟩ = some (Value.int .u8 2) := rF.out.cell 0
          have z1 : WF.cell? ⟨w.heap.size, 1, none⟩ = some (Value.string T) := rF.out.cell 1
          have z2 : WF.cell? ⟨w.heap.size, 2, none⟩ = some (Value.int .i64 0) := rF.out.cell 2
          have z3 : WF.cell? ⟨w.heap.size, 3, none⟩ = some (Value.int .i64 p) := rF.out.cell 3
          refine bodyPost_ret (v := .tuple #[.agg #[Value.int .u8 2, Value.string T, Value.int .i64 0, Value.int .i64 p], .int .i64 0]) ?_ rfl ⟨oneOut_ok (HOUT.out.trans (by rw [HWD.out]; rfl)) HTT.out rfl, bF.out⟩
          simp [results, Tryd.results24, go_sem, z0, z1, z2, z3]

set_option maxRecDepth 100000 in
set_option maxHeartbeats 16000000 in
theorem one_dig (s : ByteArray) (p : Nat) (w : World) (hp : p < s.size) (hs : s.size ≤ 1000000) (hlc : isLet s[p] = false) (hdc : isDig s[p] = true) :
    Calls Tryd.prog 24 #[.string s, .int .i64 p] w fun e w' => OneOut (s.data.toList.drop p) p e ∧ Below w.heap.size w w' := by
  have hd := drop_byte s p hp
  generalize hch : s[p]'hp = c at *
  have HD := Lib.hid hd
  have HC := Lib.hid hlc
  have HDC := Lib.hid hdc
  clear hlc hdc hd
  have hp0 : (0 : Int) ≤ (p : Int) := by omega
  have hp1 : (p : Int) < (s.size : Int) := by omega
  go_enter Tryd.func24, Tryd.ntmps24
  go_wp2_with fail
  refine (rletter_any c _).mono ?_; rw [HC.out]; rintro e w' ⟨rfl, rfl⟩
  go_wp2_with fail
  refine (rdigit_any c _).mono ?_; rw [HDC.out]; rintro e w' ⟨rfl, rfl⟩
  clear hch
  go_wp2_with fail
  go_loop [7] (fun n => ∃ m : Nat, p ≤ m ∧ m ≤ s.size ∧ n = .int .i64 m ∧ Hid (∀ j (h : j < s.data.toList.length), p ≤ j → j < m → isDig s.data.toList[j] = true)) (fun n => s.size - (intOf n).toNat)
  case atStart => exact ⟨p, Nat.le_refl _, by omega, rfl, Lib.hid (fun j _ h1 h2 => by omega)⟩
  case round =>
    obtain ⟨m, hm1, hm2, rfl, HALL⟩ := hrel
    by_cases hlt : m < s.size ∧ isDig s[m]! = true
    · obtain ⟨hlt, hw⟩ := hlt
      have e! : s[m]! = s[m] := getElem!_pos s m hlt
      rw [e!] at hw
      have HB := Lib.hid (byte_at s m hlt)
      have HW := Lib.hid hw
      clear hw e!
      have hm0 : (0 : Int) ≤ (m : Int) := by omega
      have hml : (m : Int) < (s.size : Int) := by omega
      go_wp2_with fail
      refine (rdigit_any s[m] _).mono ?_; rw [HW.out]; rintro e w' ⟨rfl, rfl⟩
      go_wp2_with fail
      go_round
      case rel => exact ⟨m + 1, by omega, by omega, by go_num, Lib.hid (fun j h h1 h2 => by
        by_cases hjm : j = m
        · subst hjm; rw [HB.out]; exact HW.out
        · exact HALL.out j h h1 (by omega))⟩
      case measure => simp [intOf]; omega
    · have hmany : manyS isDig (s.data.toList.drop p) = m - p := manyS_from hm1 (by rw [len_eq]; exact hm2) HALL.out (fun h => by
        have hm : m < s.size := by rw [len_eq] at h; exact h
        rw [byte_at s m hm]
        have : ¬ isDig s[m]! = true := fun h => hlt ⟨hm, h⟩
        rw [getElem!_pos s m hm] at this
        simpa using this)
      obtain ⟨T, hT⟩ : ∃ T, T = s.extract p m := ⟨_, rfl⟩
      have hTl : T.data.toList = (s.data.toList.drop p).take (m - p) := by
        rw [hT]; have := ext_mid s p (m - p); rw [show p + (m - p) = m by omega] at this; exact this
      have hTT : T = ⟨((s.data.toList.drop p).take (m - p)).toArray⟩ := by rw [← hTl]
      have hmp : p < m := by
        have := manyS_pos (p := isDig) (r := s.data.toList.drop (p + 1)) HDC.out
        rw [← HD.out, hmany] at this; omega
      have HOUT : Hid (tokAt (s.data.toList.drop p) = match numS T.data.toList with | some v => .ok (3, m - p, v) | none => .error 131) := Lib.hid (by
        have h2 : manyS isDig (c :: s.data.toList.drop (p + 1)) = m - p := by rw [← HD.out]; exact hmany
        rw [hTl, HD.out]
        simp only [tokAt, HC.out, HDC.out, if_true, h2]
        rfl)
      have HTD : Hid (∀ c ∈ T.data.toList, isDig c = true) := Lib.hid (by rw [hTl]; exact all_from HALL.out)
      have hTs : T.size = m - p := by rw [← len_eq, hTl, List.length_take, List.length_drop, len_eq]; omega
      have HTP : Hid (0 < T.size) := Lib.hid (by omega)
      have hTm : T.size ≤ 1000000 := by omega
      have HTT := Lib.hid hTT
      clear hmany hTl hTT hTs
      have hm0 : (p : Int) ≤ (m : Int) := by omega
      have hml : (m : Int) ≤ (s.size : Int) := by omega
      cases hnum : numS T.data.toList with
      | none =>
        have HNUM := Lib.hid hnum
        clear hnum
        by_cases hms : m < s.size
        · skip
          have HNL : Hid (isDig s[m] = false) := Lib.hid (by
            have : ¬ isDig s[m]! = true := fun h => hlt ⟨hms, h⟩
            rw [getElem!_pos s m hms] at this
            simpa using this)
          clear hlt
          have hm00 : (0 : Int) ≤ (m : Int) := by omega
          have hmll : (m : Int) < (s.size : Int) := by omega
          go_wp2_with fail
          refine (rdigit_any s[m] _).mono ?_; rw [HNL.out]; rintro e w' ⟨rfl, rfl⟩
          go_wp2_with fail
          refine (rletter_any c _).mono ?_; rw [HC.out]; rintro e w' ⟨rfl, rfl⟩
          go_wp2_with fail
          rw [← hT]
          clear hT
          refine (rdigit_any c _).mono ?_; rw [HDC.out]; rintro e w' ⟨rfl, rfl⟩
          have RB1 : Hid (Blk ((w.alloc (.cells #[.int .u8 0, .string ⟨#[]⟩, .int .i64 0, .int .i64 0] 39)).alloc (.cells #[Value.int .u8 1, Value.string T, Value.int .i64 0, Value.int .i64 p] 39)) w.heap.size 39 #[.int .u8 0, .string ⟨#[]⟩, .int .i64 0, .int .i64 0]) := Lib.hid ((Blk.new w 39 #[.int .u8 0, .string ⟨#[]⟩, .int .i64 0, .int .i64 0]).alloc (.cells #[Value.int .u8 1, Value.string T, Value.int .i64 0, Value.int .i64 p] 39))
          have TB1 : Hid (Blk ((w.alloc (.cells #[.int .u8 0, .string ⟨#[]⟩, .int .i64 0, .int .i64 0] 39)).alloc (.cells #[Value.int .u8 1, Value.string T, Value.int .i64 0, Value.int .i64 p] 39)) (w.heap.size + 1) 39 #[Value.int .u8 1, Value.string T, Value.int .i64 0, Value.int .i64 p]) := Lib.hid (by
            have h := Blk.new (w.alloc (.cells #[.int .u8 0, .string ⟨#[]⟩, .int .i64 0, .int .i64 0] 39)) 39 #[Value.int .u8 1, Value.string T, Value.int .i64 0, Value.int .i64 p]
            rw [World.size_alloc] at h; exact h)
          have HB1 : Hid (Below w.heap.size w ((w.alloc (.cells #[.int .u8 0, .string ⟨#[]⟩, .int .i64 0, .int .i64 0] 39)).alloc (.cells #[Value.int .u8 1, Value.string T, Value.int .i64 0, Value.int .i64 p] 39))) := Lib.hid (((Below.refl w.heap.size w).alloc (Nat.le_refl _) _).alloc (by simp) _)
          generalize ((w.alloc (.cells #[.int .u8 0, .string ⟨#[]⟩, .int .i64 0, .int .i64 0] 39)).alloc (.cells #[Value.int .u8 1, Value.string T, Value.int .i64 0, Value.int .i64 p] 39)) = W2 at *
          have t1' : W2.cell? ⟨w.heap.size + 1, 1, none⟩ = some (.string T) := TB1.out.cell 1
          go_wp2_with fail
          refine (number_any T _ HTP.out (by omega) HTD.out).mono ?_; unfold NumOut; rw [HNUM.out]
          rintro e W3 ⟨⟨x, rfl⟩, hb3⟩
          have RB := Lib.hid (RB1.out.below hb3)
          have HB := Lib.hid (HB1.out.trans (hb3.mono HB1.out.size))
          clear RB1 TB1 HB1 t1' hb3
          have r0 : W3.cell? ⟨w.heap.size, 0, none⟩ = some (.int .u8 0) := RB.out.cell 0
          have r1 : W3.cell? ⟨w.heap.size, 1, none⟩ = some (.string ⟨#[]⟩) := RB.out.cell 1
          have r2 : W3.cell? ⟨w.heap.size, 2, none⟩ = some (.int .i64 0) := RB.out.cell 2
          have r3 : W3.cell? ⟨w.heap.size, 3, none⟩ = some (.int .i64 0) := RB.out.cell 3
          have q0 := RB.out.free 0
          have q1 := RB.out.free 1
          have q2 := RB.out.free 2
          have q3 := RB.out.free 3
          go_wp2_with fail
          have rF := Lib.hid (((((RB.out.put 0 (Value.int .u8 0)).put 1 (Value.string ⟨#[]⟩)).put 2 (Value.int .i64 0)).put 3 (Value.int .i64 0)) : Blk ((((W3.setCell ⟨w.heap.size, 0, none⟩ (Value.int .u8 0)).setCell ⟨w.heap.size, 1, none⟩ (Value.string ⟨#[]⟩)).setCell ⟨w.heap.size, 2, none⟩ (Value.int .i64 0)).setCell ⟨w.heap.size, 3, none⟩ (Value.int .i64 0)) w.heap.size 39 #[Value.int .u8 0, Value.string ⟨#[]⟩, Value.int .i64 0, Value.int .i64 0])
          have bF := Lib.hid (((((HB.out.setCell (p := ⟨w.heap.size, 0, none⟩) (Nat.le_refl _) (Value.int .u8 0)).setCell (p := ⟨w.heap.size, 1, none⟩) (Nat.le_refl _) (Value.string ⟨#[]⟩)).setCell (p := ⟨w.heap.size, 2, none⟩) (Nat.le_refl _) (Value.int .i64 0)).setCell (p := ⟨w.heap.size, 3, none⟩) (Nat.le_refl _) (Value.int .i64 0)) : Below w.heap.size w ((((W3.setCell ⟨w.heap.size, 0, none⟩ (Value.int .u8 0)).setCell ⟨w.heap.size, 1, none⟩ (Value.string ⟨#[]⟩)).setCell ⟨w.heap.size, 2, none⟩ (Value.int .i64 0)).setCell ⟨w.heap.size, 3, none⟩ (Value.int .i64 0)))
          generalize ((((W3.setCell ⟨w.heap.size, 0, none⟩ (Value.int .u8 0)).setCell ⟨w.heap.size, 1, none⟩ (Value.string ⟨#[]⟩)).setCell ⟨w.heap.size, 2, none⟩ (Value.int .i64 0)).setCell ⟨w.heap.size, 3, none⟩ (Value.int .i64 0)) = WF at *
          have z0 : WF.cell? ⟨w.heap.size, 0, none⟩ = some (Value.int .u8 0) := rF.out.cell 0
          have z1 : WF.cell? ⟨w.heap.size, 1, none⟩ = some (Value.string ⟨#[]⟩) := rF.out.cell 1
          have z2 : WF.cell? ⟨w.heap.size, 2, none⟩ = some (Value.int .i64 0) := rF.out.cell 2
          have z3 : WF.cell? ⟨w.heap.size, 3, none⟩ = some (Value.int .i64 0) := rF.out.cell 3
          refine bodyPost_ret (v := .tuple #[.agg #[Value.int .u8 0, Value.string ⟨#[]⟩, Value.int .i64 0, Value.int .i64 0], .int .i64 131]) ?_ rfl ⟨oneOut_no (HOUT.out.trans (by rw [HNUM.out])) rfl, bF.out⟩
          simp [results, Tryd.results24, go_sem, z0, z1, z2, z3]
        · skip
          clear hlt
          go_wp2_with fail
          rw [← hT]
          clear hT
          refine (rdigit_any c _).mono ?_; rw [HDC.out]; rintro e w' ⟨rfl, rfl⟩
          have RB1 : Hid (Blk ((w.alloc (.cells #[.int .u8 0, .string ⟨#[]⟩, .int .i64 0, .int .i64 0] 39)).alloc (.cells #[Value.int .u8 1, Value.string T, Value.int .i64 0, Value.int .i64 p] 39)) w.heap.size 39 #[.int .u8 0, .string ⟨#[]⟩, .int .i64 0, .int .i64 0]) := Lib.hid ((Blk.new w 39 #[.int .u8 0, .string ⟨#[]⟩, .int .i64 0, .int .i64 0]).alloc (.cells #[Value.int .u8 1, Value.string T, Value.int .i64 0, Value.int .i64 p] 39))
          have TB1 : Hid (Blk ((w.alloc (.cells #[.int .u8 0, .string ⟨#[]⟩, .int .i64 0, .int .i64 0] 39)).alloc (.cells #[Value.int .u8 1, Value.string T, Value.int .i64 0, Value.int .i64 p] 39)) (w.heap.size + 1) 39 #[Value.int .u8 1, Value.string T, Value.int .i64 0, Value.int .i64 p]) := Lib.hid (by
            have h := Blk.new (w.alloc (.cells #[.int .u8 0, .string ⟨#[]⟩, .int .i64 0, .int .i64 0] 39)) 39 #[Value.int .u8 1, Value.string T, Value.int .i64 0, Value.int .i64 p]
            rw [World.size_alloc] at h; exact h)
          have HB1 : Hid (Below w.heap.size w ((w.alloc (.cells #[.int .u8 0, .string ⟨#[]⟩, .int .i64 0, .int .i64 0] 39)).alloc (.cells #[Value.int .u8 1, Value.string T, Value.int .i64 0, Value.int .i64 p] 39))) := Lib.hid (((Below.refl w.heap.size w).alloc (Nat.le_refl _) _).alloc (by simp) _)
          generalize ((w.alloc (.cells #[.int .u8 0, .string ⟨#[]⟩, .int .i64 0, .int .i64 0] 39)).alloc (.cells #[Value.int .u8 1, Value.string T, Value.int .i64 0, Value.int .i64 p] 39)) = W2 at *
          have t1' : W2.cell? ⟨w.heap.size + 1, 1, none⟩ = some (.string T) := TB1.out.cell 1
          go_wp2_with fail
          refine (number_any T _ HTP.out (by omega) HTD.out).mono ?_; unfold NumOut; rw [HNUM.out]
          rintro e W3 ⟨⟨x, rfl⟩, hb3⟩
          have RB := Lib.hid (RB1.out.below hb3)
          have HB := Lib.hid (HB1.out.trans (hb3.mono HB1.out.size))
          clear RB1 TB1 HB1 t1' hb3
          have r0 : W3.cell? ⟨w.heap.size, 0, none⟩ = some (.int .u8 0) := RB.out.cell 0
          have r1 : W3.cell? ⟨w.heap.size, 1, none⟩ = some (.string ⟨#[]⟩) := RB.out.cell 1
          have r2 : W3.cell? ⟨w.heap.size, 2, none⟩ = some (.int .i64 0) := RB.out.cell 2
          have r3 : W3.cell? ⟨w.heap.size, 3, none⟩ = some (.int .i64 0) := RB.out.cell 3
          have q0 := RB.out.free 0
          have q1 := RB.out.free 1
          have q2 := RB.out.free 2
          have q3 := RB.out.free 3
          go_wp2_with fail
          have rF := Lib.hid (((((RB.out.put 0 (Value.int .u8 0)).put 1 (Value.string ⟨#[]⟩)).put 2 (Value.int .i64 0)).put 3 (Value.int .i64 0)) : Blk ((((W3.setCell ⟨w.heap.size, 0, none⟩ (Value.int .u8 0)).setCell ⟨w.heap.size, 1, none⟩ (Value.string ⟨#[]⟩)).setCell ⟨w.heap.size, 2, none⟩ (Value.int .i64 0)).setCell ⟨w.heap.size, 3, none⟩ (Value.int .i64 0)) w.heap.size 39 #[Value.int .u8 0, Value.string ⟨#[]⟩, Value.int .i64 0, Value.int .i64 0])
          have bF := Lib.hid (((((HB.out.setCell (p := ⟨w.heap.size, 0, none⟩) (Nat.le_refl _) (Value.int .u8 0)).setCell (p := ⟨w.heap.size, 1, none⟩) (Nat.le_refl _) (Value.string ⟨#[]⟩)).setCell (p := ⟨w.heap.size, 2, none⟩) (Nat.le_refl _) (Value.int .i64 0)).setCell (p := ⟨w.heap.size, 3, none⟩) (Nat.le_refl _) (Value.int .i64 0)) : Below w.heap.size w ((((W3.setCell ⟨w.heap.size, 0, none⟩ (Value.int .u8 0)).setCell ⟨w.heap.size, 1, none⟩ (Value.string ⟨#[]⟩)).setCell ⟨w.heap.size, 2, none⟩ (Value.int .i64 0)).setCell ⟨w.heap.size, 3, none⟩ (Value.int .i64 0)))
          generalize ((((W3.setCell ⟨w.heap.size, 0, none⟩ (Value.int .u8 0)).setCell ⟨w.heap.size, 1, none⟩ (Value.string ⟨#[]⟩)).setCell ⟨w.heap.size, 2, none⟩ (Value.int .i64 0)).setCell ⟨w.heap.size, 3, none⟩ (Value.int .i64 0)) = WF at *
          have z0 : WF.cell? ⟨w.heap.size, 0, none⟩ = some (Value.int .u8 0) := rF.out.cell 0
          have z1 : WF.cell? ⟨w.heap.size, 1, none⟩ = some (Value.string ⟨#[]⟩) := rF.out.cell 1
          have z2 : WF.cell? ⟨w.heap.size, 2, none⟩ = some (Value.int .i64 0) := rF.out.cell 2
          have z3 : WF.cell? ⟨w.heap.size, 3, none⟩ = some (Value.int .i64 0) := rF.out.cell 3
          refine bodyPost_ret (v := .tuple #[.agg #[Value.int .u8 0, Value.string ⟨#[]⟩, Value.int .i64 0, Value.int .i64 0], .int .i64 131]) ?_ rfl ⟨oneOut_no (HOUT.out.trans (by rw [HNUM.out])) rfl, bF.out⟩
          simp [results, Tryd.results24, go_sem, z0, z1, z2, z3]
      | some x =>
        have HNUM := Lib.hid hnum
        clear hnum
        by_cases hms : m < s.size
        · skip
          have HNL : Hid (isDig s[m] = false) := Lib.hid (by
            have : ¬ isDig s[m]! = true := fun h => hlt ⟨hms, h⟩
            rw [getElem!_pos s m hms] at this
            simpa using this)
          clear hlt
          have hm00 : (0 : Int) ≤ (m : Int) := by omega
          have hmll : (m : Int) < (s.size : Int) := by omega
          go_wp2_with fail
          refine (rdigit_any s[m] _).mono ?_; rw [HNL.out]; rintro e w' ⟨rfl, rfl⟩
          go_wp2_with fail
          refine (rletter_any c _).mono ?_; rw [HC.out]; rintro e w' ⟨rfl, rfl⟩
          go_wp2_with fail
          rw [← hT]
          clear hT
          refine (rdigit_any c _).mono ?_; rw [HDC.out]; rintro e w' ⟨rfl, rfl⟩
          have RB1 : Hid (Blk ((w.alloc (.cells #[.int .u8 0, .string ⟨#[]⟩, .int .i64 0, .int .i64 0] 39)).alloc (.cells #[Value.int .u8 1, Value.string T, Value.int .i64 0, Value.int .i64 p] 39)) w.heap.size 39 #[.int .u8 0, .string ⟨#[]⟩, .int .i64 0, .int .i64 0]) := Lib.hid ((Blk.new w 39 #[.int .u8 0, .string ⟨#[]⟩, .int .i64 0, .int .i64 0]).alloc (.cells #[Value.int .u8 1, Value.string T, Value.int .i64 0, Value.int .i64 p] 39))
          have TB1 : Hid (Blk ((w.alloc (.cells #[.int .u8 0, .string ⟨#[]⟩, .int .i64 0, .int .i64 0] 39)).alloc (.cells #[Value.int .u8 1, Value.string T, Value.int .i64 0, Value.int .i64 p] 39)) (w.heap.size + 1) 39 #[Value.int .u8 1, Value.string T, Value.int .i64 0, Value.int .i64 p]) := Lib.hid (by
            have h := Blk.new (w.alloc (.cells #[.int .u8 0, .string ⟨#[]⟩, .int .i64 0, .int .i64 0] 39)) 39 #[Value.int .u8 1, Value.string T, Value.int .i64 0, Value.int .i64 p]
            rw [World.size_alloc] at h; exact h)
          have HB1 : Hid (Below w.heap.size w ((w.alloc (.cells #[.int .u8 0, .string ⟨#[]⟩, .int .i64 0, .int .i64 0] 39)).alloc (.cells #[Value.int .u8 1, Value.string T, Value.int .i64 0, Value.int .i64 p] 39))) := Lib.hid (((Below.refl w.heap.size w).alloc (Nat.le_refl _) _).alloc (by simp) _)
          generalize ((w.alloc (.cells #[.int .u8 0, .string ⟨#[]⟩, .int .i64 0, .int .i64 0] 39)).alloc (.cells #[Value.int .u8 1, Value.string T, Value.int .i64 0, Value.int .i64 p] 39)) = W2 at *
          have t1' : W2.cell? ⟨w.heap.size + 1, 1, none⟩ = some (.string T) := TB1.out.cell 1
          go_wp2_with fail
          refine (number_any T _ HTP.out (by omega) HTD.out).mono ?_; unfold NumOut; rw [HNUM.out]
          rintro e W3 ⟨rfl, hb3⟩
          have RB := Lib.hid (RB1.out.below hb3)
          have TB := Lib.hid (TB1.out.below hb3)
          have HB := Lib.hid (HB1.out.trans (hb3.mono HB1.out.size))
          clear RB1 TB1 HB1 t1' hb3
          have t0 : W3.cell? ⟨w.heap.size + 1, 0, none⟩ = some (.int .u8 1) := TB.out.cell 0
          have t2 : W3.cell? ⟨w.heap.size + 1, 2, none⟩ = some (.int .i64 0) := TB.out.cell 2
          have f0 := TB.out.free 0
          have f2 := TB.out.free 2
          go_upto_region 15 with fail
          have TB4 := Lib.hid ((TB.out.put 0 (.int .u8 3)).put 2 (.int .i64 x) : Blk ((W3.setCell ⟨w.heap.size + 1, 0, none⟩ (.int .u8 3)).setCell ⟨w.heap.size + 1, 2, none⟩ (.int .i64 x)) (w.heap.size + 1) 39 #[.int .u8 3, .string T, .int .i64 x, .int .i64 p])
          have RB4 := Lib.hid ((RB.out.far (by omega) 0 (.int .u8 3)).far (by omega) 2 (.int .i64 x) : Blk ((W3.setCell ⟨w.heap.size + 1, 0, none⟩ (.int .u8 3)).setCell ⟨w.heap.size + 1, 2, none⟩ (.int .i64 x)) w.heap.size 39 #[.int .u8 0, .string ⟨#[]⟩, .int .i64 0, .int .i64 0])
          have HB4 := Lib.hid ((HB.out.setCell (p := ⟨w.heap.size + 1, 0, none⟩) (Nat.le_succ _) (.int .u8 3)).setCell (p := ⟨w.heap.size + 1, 2, none⟩) (Nat.le_succ _) (.int .i64 x))
          clear t0 t2 f0 f2 TB RB HB
          generalize ((W3.setCell ⟨w.heap.size + 1, 0, none⟩ (.int .u8 3)).setCell ⟨w.heap.size + 1, 2, none⟩ (.int .i64 x)) = W4 at *
          have TB := TB4; have RB := RB4; have HB := HB4
          clear TB4 RB4 HB4
          have t0 : W4.cell? ⟨w.heap.size + 1, 0, none⟩ = some (Value.int .u8 3) := TB.out.cell 0
          have t1 : W4.cell? ⟨w.heap.size + 1, 1, none⟩ = some (Value.string T) := TB.out.cell 1
          have t2 : W4.cell? ⟨w.heap.size + 1, 2, none⟩ = some (Value.int .i64 x) := TB.out.cell 2
          have t3 : W4.cell? ⟨w.heap.size + 1, 3, none⟩ = some (Value.int .i64 p) := TB.out.cell 3
          have r0 : W4.cell? ⟨w.heap.size, 0, none⟩ = some (.int .u8 0) := RB.out.cell 0
          have r1 : W4.cell? ⟨w.heap.size, 1, none⟩ = some (.string ⟨#[]⟩) := RB.out.cell 1
          have r2 : W4.cell? ⟨w.heap.size, 2, none⟩ = some (.int .i64 0) := RB.out.cell 2
          have r3 : W4.cell? ⟨w.heap.size, 3, none⟩ = some (.int .i64 0) := RB.out.cell 3
          have q0 := RB.out.free 0
          have q1 := RB.out.free 1
          have q2 := RB.out.free 2
          have q3 := RB.out.free 3
          go_wp2_with fail
          have rF := Lib.hid (((((RB.out.put 0 (Value.int .u8 3)).put 1 (Value.string T)).put 2 (Value.int .i64 x)).put 3 (Value.int .i64 p)) : Blk ((((W4.setCell ⟨w.heap.size, 0, none⟩ (Value.int .u8 3)).setCell ⟨w.heap.size, 1, none⟩ (Value.string T)).setCell ⟨w.heap.size, 2, none⟩ (Value.int .i64 x)).setCell ⟨w.heap.size, 3, none⟩ (Value.int .i64 p)) w.heap.size 39 #[Value.int .u8 3, Value.string T, Value.int .i64 x, Value.int .i64 p])
          have bF := Lib.hid (((((HB.out.setCell (p := ⟨w.heap.size, 0, none⟩) (Nat.le_refl _) (Value.int .u8 3)).setCell (p := ⟨w.heap.size, 1, none⟩) (Nat.le_refl _) (Value.string T)).setCell (p := ⟨w.heap.size, 2, none⟩) (Nat.le_refl _) (Value.int .i64 x)).setCell (p := ⟨w.heap.size, 3, none⟩) (Nat.le_refl _) (Value.int .i64 p)) : Below w.heap.size w ((((W4.setCell ⟨w.heap.size, 0, none⟩ (Value.int .u8 3)).setCell ⟨w.heap.size, 1, none⟩ (Value.string T)).setCell ⟨w.heap.size, 2, none⟩ (Value.int .i64 x)).setCell ⟨w.heap.size, 3, none⟩ (Value.int .i64 p)))
          generalize ((((W4.setCell ⟨w.heap.size, 0, none⟩ (Value.int .u8 3)).setCell ⟨w.heap.size, 1, none⟩ (Value.string T)).setCell ⟨w.heap.size, 2, none⟩ (Value.int .i64 x)).setCell ⟨w.heap.size, 3, none⟩ (Value.int .i64 p)) = WF at *
          have z0 : WF.cell? ⟨w.heap.size, 0, none⟩ = some (Value.int .u8 3) := rF.out.cell 0
          have z1 : WF.cell? ⟨w.heap.size, 1, none⟩ = some (Value.string T) := rF.out.cell 1
          have z2 : WF.cell? ⟨w.heap.size, 2, none⟩ = some (Value.int .i64 x) := rF.out.cell 2
          have z3 : WF.cell? ⟨w.heap.size, 3, none⟩ = some (Value.int .i64 p) := rF.out.cell 3
          refine bodyPost_ret (v := .tuple #[.agg #[Value.int .u8 3, Value.string T, Value.int .i64 x, Value.int .i64 p], .int .i64 0]) ?_ rfl ⟨oneOut_ok (HOUT.out.trans (by rw [HNUM.out])) HTT.out rfl, bF.out⟩
          simp [results, Tryd.results24, go_sem, z0, z1, z2, z3]
        · skip
          clear hlt
          go_wp2_with fail
          rw [← hT]
          clear hT
          refine (rdigit_any c _).mono ?_; rw [HDC.out]; rintro e w' ⟨rfl, rfl⟩
          have RB1 : Hid (Blk ((w.alloc (.cells #[.int .u8 0, .string ⟨#[]⟩, .int .i64 0, .int .i64 0] 39)).alloc (.cells #[Value.int .u8 1, Value.string T, Value.int .i64 0, Value.int .i64 p] 39)) w.heap.size 39 #[.int .u8 0, .string ⟨#[]⟩, .int .i64 0, .int .i64 0]) := Lib.hid ((Blk.new w 39 #[.int .u8 0, .string ⟨#[]⟩, .int .i64 0, .int .i64 0]).alloc (.cells #[Value.int .u8 1, Value.string T, Value.int .i64 0, Value.int .i64 p] 39))
          have TB1 : Hid (Blk ((w.alloc (.cells #[.int .u8 0, .string ⟨#[]⟩, .int .i64 0, .int .i64 0] 39)).alloc (.cells #[Value.int .u8 1, Value.string T, Value.int .i64 0, Value.int .i64 p] 39)) (w.heap.size + 1) 39 #[Value.int .u8 1, Value.string T, Value.int .i64 0, Value.int .i64 p]) := Lib.hid (by
            have h := Blk.new (w.alloc (.cells #[.int .u8 0, .string ⟨#[]⟩, .int .i64 0, .int .i64 0] 39)) 39 #[Value.int .u8 1, Value.string T, Value.int .i64 0, Value.int .i64 p]
            rw [World.size_alloc] at h; exact h)
          have HB1 : Hid (Below w.heap.size w ((w.alloc (.cells #[.int .u8 0, .string ⟨#[]⟩, .int .i64 0, .int .i64 0] 39)).alloc (.cells #[Value.int .u8 1, Value.string T, Value.int .i64 0, Value.int .i64 p] 39))) := Lib.hid (((Below.refl w.heap.size w).alloc (Nat.le_refl _) _).alloc (by simp) _)
          generalize ((w.alloc (.cells #[.int .u8 0, .string ⟨#[]⟩, .int .i64 0, .int .i64 0] 39)).alloc (.cells #[Value.int .u8 1, Value.string T, Value.int .i64 0, Value.int .i64 p] 39)) = W2 at *
          have t1' : W2.cell? ⟨w.heap.size + 1, 1, none⟩ = some (.string T) := TB1.out.cell 1
          go_wp2_with fail
          refine (number_any T _ HTP.out (by omega) HTD.out).mono ?_; unfold NumOut; rw [HNUM.out]
          rintro e W3 ⟨rfl, hb3⟩
          have RB := Lib.hid (RB1.out.below hb3)
          have TB := Lib.hid (TB1.out.below hb3)
          have HB := Lib.hid (HB1.out.trans (hb3.mono HB1.out.size))
          clear RB1 TB1 HB1 t1' hb3
          have t0 : W3.cell? ⟨w.heap.size + 1, 0, none⟩ = some (.int .u8 1) := TB.out.cell 0
          have t2 : W3.cell? ⟨w.heap.size + 1, 2, none⟩ = some (.int .i64 0) := TB.out.cell 2
          have f0 := TB.out.free 0
          have f2 := TB.out.free 2
          go_upto_region 15 with fail
          have TB4 := Lib.hid ((TB.out.put 0 (.int .u8 3)).put 2 (.int .i64 x) : Blk ((W3.setCell ⟨w.heap.size + 1, 0, none⟩ (.int .u8 3)).setCell ⟨w.heap.size + 1, 2, none⟩ (.int .i64 x)) (w.heap.size + 1) 39 #[.int .u8 3, .string T, .int .i64 x, .int .i64 p])
          have RB4 := Lib.hid ((RB.out.far (by omega) 0 (.int .u8 3)).far (by omega) 2 (.int .i64 x) : Blk ((W3.setCell ⟨w.heap.size + 1, 0, none⟩ (.int .u8 3)).setCell ⟨w.heap.size + 1, 2, none⟩ (.int .i64 x)) w.heap.size 39 #[.int .u8 0, .string ⟨#[]⟩, .int .i64 0, .int .i64 0])
          have HB4 := Lib.hid ((HB.out.setCell (p := ⟨w.heap.size + 1, 0, none⟩) (Nat.le_succ _) (.int .u8 3)).setCell (p := ⟨w.heap.size + 1, 2, none⟩) (Nat.le_succ _) (.int .i64 x))
          clear t0 t2 f0 f2 TB RB HB
          generalize ((W3.setCell ⟨w.heap.size + 1, 0, none⟩ (.int .u8 3)).setCell ⟨w.heap.size + 1, 2, none⟩ (.int .i64 x)) = W4 at *
          have TB := TB4; have RB := RB4; have HB := HB4
          clear TB4 RB4 HB4
          have t0 : W4.cell? ⟨w.heap.size + 1, 0, none⟩ = some (Value.int .u8 3) := TB.out.cell 0
          have t1 : W4.cell? ⟨w.heap.size + 1, 1, none⟩ = some (Value.string T) := TB.out.cell 1
          have t2 : W4.cell? ⟨w.heap.size + 1, 2, none⟩ = some (Value.int .i64 x) := TB.out.cell 2
          have t3 : W4.cell? ⟨w.heap.size + 1, 3, none⟩ = some (Value.int .i64 p) := TB.out.cell 3
          have r0 : W4.cell? ⟨w.heap.size, 0, none⟩ = some (.int .u8 0) := RB.out.cell 0
          have r1 : W4.cell? ⟨w.heap.size, 1, none⟩ = some (.string ⟨#[]⟩) := RB.out.cell 1
          have r2 : W4.cell? ⟨w.heap.size, 2, none⟩ = some (.int .i64 0) := RB.out.cell 2
          have r3 : W4.cell? ⟨w.heap.size, 3, none⟩ = some (.int .i64 0) := RB.out.cell 3
          have q0 := RB.out.free 0
          have q1 := RB.out.free 1
          have q2 := RB.out.free 2
          have q3 := RB.out.free 3
          go_wp2_with fail
          have rF := Lib.hid (((((RB.out.put 0 (Value.int .u8 3)).put 1 (Value.string T)).put 2 (Value.int .i64 x)).put 3 (Value.int .i64 p)) : Blk ((((W4.setCell ⟨w.heap.size, 0, none⟩ (Value.int .u8 3)).setCell ⟨w.heap.size, 1, none⟩ (Value.string T)).setCell ⟨w.heap.size, 2, none⟩ (Value.int .i64 x)).setCell ⟨w.heap.size, 3, none⟩ (Value.int .i64 p)) w.heap.size 39 #[Value.int .u8 3, Value.string T, Value.int .i64 x, Value.int .i64 p])
          have bF := Lib.hid (((((HB.out.setCell (p := ⟨w.heap.size, 0, none⟩) (Nat.le_refl _) (Value.int .u8 3)).setCell (p := ⟨w.heap.size, 1, none⟩) (Nat.le_refl _) (Value.string T)).setCell (p := ⟨w.heap.size, 2, none⟩) (Nat.le_refl _) (Value.int .i64 x)).setCell (p := ⟨w.heap.size, 3, none⟩) (Nat.le_refl _) (Value.int .i64 p)) : Below w.heap.size w ((((W4.setCell ⟨w.heap.size, 0, none⟩ (Value.int .u8 3)).setCell ⟨w.heap.size, 1, none⟩ (Value.string T)).setCell ⟨w.heap.size, 2, none⟩ (Value.int .i64 x)).setCell ⟨w.heap.size, 3, none⟩ (Value.int .i64 p)))
          generalize ((((W4.setCell ⟨w.heap.size, 0, none⟩ (Value.int .u8 3)).setCell ⟨w.heap.size, 1, none⟩ (Value.string T)).setCell ⟨w.heap.size, 2, none⟩ (Value.int .i64 x)).setCell ⟨w.heap.size, 3, none⟩ (Value.int .i64 p)) = WF at *
          have z0 : WF.cell? ⟨w.heap.size, 0, none⟩ = some (Value.int .u8 3) := rF.out.cell 0
          have z1 : WF.cell? ⟨w.heap.size, 1, none⟩ = some (Value.string T) := rF.out.cell 1
          have z2 : WF.cell? ⟨w.heap.size, 2, none⟩ = some (Value.int .i64 x) := rF.out.cell 2
          have z3 : WF.cell? ⟨w.heap.size, 3, none⟩ = some (Value.int .i64 p) := rF.out.cell 3
          refine bodyPost_ret (v := .tuple #[.agg #[Value.int .u8 3, Value.string T, Value.int .i64 x, Value.int .i64 p], .int .i64 0]) ?_ rfl ⟨oneOut_ok (HOUT.out.trans (by rw [HNUM.out])) HTT.out rfl, bF.out⟩
          simp [results, Tryd.results24, go_sem, z0, z1, z2, z3]
end Go.Proofs.YtdbkchngpbahaaaDoor
