/- Joint text: HEqI, HSameA, HSameB, ShelfF, HPut, HTextA, HDig, HTextB, HPlnA, HPlnB, HLawR. By an AI agent. -/
import Derived.Test.YtgdibfnpkcdiiaaGreatDoorJC
import Derived.Test.YtgdibfnpkcdiiaaGreatDoorJA
import Derived.Test.YtgdibfnpkcdiiaaGreatDoorJB
import Derived.Shelf.Strings.Builder1
import Derived.Shelf.Strings.Builder2
import Derived.Shelf.Strings.OnBuilder
import Derived.Shelf.Small.Strs
import Derived.Shelf.Strings.BuilderF
import Derived.Shelf.Strings.BuilderK
import Derived.Shelf.Utf8.RuneCount
import Derived.Shelf.Strings.Builder2Cap
import Derived.Shelf.Strconv.Itoa0
import Derived.Shelf.Strconv.Itoa1
import Derived.Shelf.LaysM
import Derived.Shelf.Strconv.Itoa2
import Derived.Shelf.Strconv.Itoa3
import Derived.Shelf.Strconv.Itoa4
import Derived.Shelf.Strconv.Clone
import Derived.Shelf.Strconv.SyntaxError
import Derived.Shelf.LaysC
import Derived.Shelf.Strconv.ToError
import Derived.Shelf.Strconv.Lower
import Derived.Shelf.Strconv.ParseUint10
import Derived.Shelf.Strconv.ParseUint10Empty
import Derived.Shelf.Strconv.ParseUint10Any
import Derived.Shelf.Strconv.RangeError
import Derived.Shelf.Strconv.ToErrorRange
import Derived.Shelf.Strconv.ParseUintEmpty
import Derived.Shelf.Strconv.ParseUint10b64
import Derived.Shelf.Strconv.ParseUint10b32
import Derived.Shelf.Strconv.ParseUint10b16
import Derived.Shelf.Strconv.ParseUint10b8
import Derived.Shelf.Strconv.ParseUint10At
import Derived.Shelf.Strings.Search1
import Derived.Shelf.Strings.Search2
import Derived.Shelf.Strings.Search3
import Derived.Shelf.Strings.Count
import Derived.Shelf.Strings.Shaped
import Derived.Shelf.Strings.Prefix
import Derived.Shelf.Strings.Split
import Derived.Shelf.Strings.SplitShaped
import Derived.Shelf.Unicode.Decode
import Derived.Shelf.Strings.RuneCount
import Derived.Shelf.Strings.Explode
import Derived.Shelf.Bits.Mul64
import Derived.Shelf.Unicode.DecodeSlow
import Derived.Shelf.Unicode.DecodeAny
import Derived.Shelf.Strings.BuilderCap
import Derived.Shelf.Slices.Turned
import Derived.Shelf.Slices.Equal
import Derived.Ground.Names2Prog
import Derived.Shelf.Slices.Clone
import Derived.Shelf.Slices.Empties2
import Derived.Ground.SlgnProg
import Derived.Shelf.SlicesG.Equal
import Derived.Shelf.SlicesG.Clone
import Derived.Shelf.SlicesE.Clone
import Derived.Test.YtgdibfnpkcdiiaaGreatDoorProg
import Derived.Lib.LaidTab
import Derived.Lib.ItoaMem
import Derived.Test.YtgdibfnpkcdiiaaGreatDoorEwR
/- Rows of numbers: are they the same? By an AI agent. -/
namespace Go.Proofs.YtgdibfnpkcdiiaaGreatDoor
open Go.RowKit
theorem take_eq_take {α : Type} {l m : List α} {i : Nat} {x : α} (h : l.take i = m.take i) (hx : l[i]? = some x) (hy : m[i]? = some x) : l.take (i + 1) = m.take (i + 1) := by
  rw [List.take_add_one, List.take_add_one, hx, hy, h]

set_option maxRecDepth 100000 in
set_option maxHeartbeats 8000000 in
theorem eqints58 (v u : Value) (ks ls : List Int) (w : World) (h : IntsV w v ks) (k : IntsV w u ls) (h1 : ks.length ≤ 1000000) :
    Calls Tryz.prog 58 #[v, u] w fun e w' => e = .returned (.bool (decide (ks = ls))) ∧ Below w.heap.size w w' := by
  obtain ⟨A, c, rfl, hc, h⟩ := h
  obtain ⟨A2, c2, rfl, hc2, k⟩ := k
  obtain ⟨n, hn⟩ : ∃ n, n = ks.length := ⟨_, rfl⟩
  obtain ⟨n2, hn2⟩ : ∃ n, n = ls.length := ⟨_, rfl⟩
  rw [← hn, ← hn2]
  have H := Lib.hid h; have K := Lib.hid k; have HN := Lib.hid hn; have HN2 := Lib.hid hn2; have H1 := Lib.hid h1
  obtain ⟨res, hres⟩ : ∃ r, r = decide (ks = ls) := ⟨_, rfl⟩
  rw [← hres]
  have HR := Lib.hid hres
  clear h k hn hn2 hc hc2 h1 hres
  go_enter Tryz.func58, Tryz.ntmps58
  by_cases hnn : n = n2
  case neg =>
    have hb : ((n : Int) != (n2 : Int)) = true := by simp; omega
    have HNO := Lib.hid (show res = false by rw [HR.out]; exact decide_eq_false (fun e => hnn (by rw [HN.out, HN2.out, e])))
    clear hnn
    go_wp2_with fail
    go_ret
    exact ⟨ret_b HNO.out.symm, Below.refl _ _⟩
  case pos =>
    subst hnn
    have hb : ((n : Int) != (n : Int)) = false := by simp
    go_wp2_with fail
    go_loopg [13] n (fun gk v wr => ∃ i : Nat, i ≤ n ∧ n - i ≤ gk ∧ v = .int .i64 i ∧ Hid (Below w.heap.size w wr) ∧ Hid (ks.take i = ls.take i))
    case atStart => exact ⟨0, Nat.zero_le _, Nat.le_refl _, rfl, Lib.hid (Below.refl _ _), Lib.hid (by simp)⟩
    case round =>
      obtain ⟨i, hi, hgk, rfl, HB, HI⟩ := hrel
      by_cases hlt : i < n
      case neg =>
        have q : decide ((i : Int) < (n : Int)) = false := decide_eq_false (by omega)
        have HY := Lib.hid (show res = true by
          have := HI.out
          rw [List.take_of_length_le (by rw [← HN.out]; omega), List.take_of_length_le (by rw [← HN2.out]; omega)] at this
          rw [HR.out]
          exact decide_eq_true this)
        go_wp2_with fail
        go_ret
        exact ⟨ret_b HY.out.symm, HB.out⟩
      case pos =>
        have q : decide ((i : Int) < (n : Int)) = true := decide_eq_true (by omega)
        obtain ⟨y, hy⟩ : ∃ y, ks[i]? = some y := ⟨_, List.getElem?_eq_getElem (by rw [← HN.out]; exact hlt)⟩
        obtain ⟨z, hz⟩ : ∃ y, ls[i]? = some y := ⟨_, List.getElem?_eq_getElem (by rw [← HN2.out]; exact hlt)⟩
        obtain ⟨ab, ao, rfl, hat⟩ : ∃ b o, A = some ⟨b, o, none⟩ ∧ wr.cell? ⟨b, o + i * 1, none⟩ = some (.int .i64 y) := by
          rcases H.out with e | ⟨b, o, e, q⟩
          · rw [e] at hy; simp at hy
          · exact ⟨b, o, e, get_b HB.out (q i y hy)⟩
        obtain ⟨cb, co, rfl, hat2⟩ : ∃ b o, A2 = some ⟨b, o, none⟩ ∧ wr.cell? ⟨b, o + i * 1, none⟩ = some (.int .i64 z) := by
          rcases K.out with e | ⟨b, o, e, q⟩
          · rw [e] at hz; simp at hz
          · exact ⟨b, o, e, get_b HB.out (q i z hz)⟩
        rw [Nat.mul_one] at hat hat2
        have HYA := Lib.hid hat; have HZA := Lib.hid hat2; have HYY := Lib.hid hy; have HZZ := Lib.hid hz; have HII := Lib.hid (show (i : Int) < (n : Int) by omega)
        clear hat hat2 hy hz
        go_upto_region 6 with fail
        refine wp_region_valsA [(none, .slice (some ⟨ab, ao, none⟩) n c), (none, .int .i64 (i : Int)), (none, .pointer (some ⟨ab, ao + i, none⟩)), (none, .int .i64 y), (none, .slice (some ⟨cb, co, none⟩) n c2), (none, .int .i64 (i : Int)), (none, .pointer (some ⟨cb, co + i, none⟩)), (none, .int .i64 z), (none, .bool (y != z))] mixed (by kernel_rfl) ?_
        intro FF AA hA hF
        have hL : HasL FF [(0, .slice (some ⟨ab, ao, none⟩) n c), (1, .slice (some ⟨cb, co, none⟩) n c2), (5, .int .i64 (i : Int)), (16, .slice (some ⟨ab, ao, none⟩) n c), (17, .int .i64 (i : Int)), (18, .pointer (some ⟨ab, ao + i, none⟩)), (19, .int .i64 y), (20, .slice (some ⟨cb, co, none⟩) n c2), (21, .int .i64 (i : Int)), (22, .pointer (some ⟨cb, co + i, none⟩)), (23, .int .i64 z), (24, .bool (y != z))] := by unfold HasL; rw [hF, hA]; kernel_rfl
        have HF := Lib.hid hF; clear hF; have HA := Lib.hid hA; clear hA
        refine ⟨?_, ?_⟩
        · intro V hV
          repeat clear ‹∀ (a : Act) (w : World), Code.wp Tryz.prog _ _ a w → _›
          have gff := gd_ff
          have gtt := gd_tt
          have hi0 := HII.out
          exact
          ResL.cons (OpRes.val (by have a0 := hL.at 0 rfl; go_simp)) (
          ResL.cons (OpRes.val (by have a5 := hL.at 2 rfl; go_simp)) (
          ResL.cons (OpRes.val (by have a16 := hL.at 3 rfl; have a17 := hL.at 4 rfl; go_simp)) (
          ResL.cons (OpRes.val (by have a18 := hL.at 5 rfl; have kk := get_b hV HYA.out; go_simp)) (
          ResL.cons (OpRes.val (by have a1 := hL.at 1 rfl; go_simp)) (
          ResL.cons (OpRes.val (by have a5 := hL.at 2 rfl; go_simp)) (
          ResL.cons (OpRes.val (by have a20 := hL.at 7 rfl; have a21 := hL.at 8 rfl; go_simp)) (
          ResL.cons (OpRes.val (by have a22 := hL.at 9 rfl; have kk := get_b hV HZA.out; go_simp)) (
          ResL.cons (OpRes.val (by have a19 := hL.at 6 rfl; have a23 := hL.at 10 rfl; go_simp)) (
          ResL.nil)))))))))
        intro V hV
        clear hL
        obtain ⟨gg, hFF⟩ : ∃ gg : Nat → Value, FF = putL [(16, gg 16), (17, gg 17), (18, gg 18), (19, gg 19), (20, gg 20), (21, gg 21), (22, gg 22), (23, gg 23), (24, .bool (y != z))] AA := ⟨fun k => FF.tmps.getD k undef, by rw [HF.out, HA.out]; kernel_rfl⟩
        clear HF
        rw [HA.out] at hFF; clear HA
        simp only [putL, Act.put, List.setIfInBounds_toArray, List.set_cons_zero, List.set_cons_succ] at hFF
        subst hFF
        refine wpList_nil ?_
        have HBV := Lib.hid (HB.out.trans (hV.mono HB.out.size)); clear hV
        cases hyz : (y != z) with
        | true =>
          have HNO := Lib.hid (show res = false by
            rw [HR.out]
            refine decide_eq_false fun e => ?_
            have e1 := HYY.out
            rw [e, HZZ.out] at e1
            injection e1 with e1
            rw [e1] at hyz
            simp at hyz)
          clear hyz
          go_wp2_with fail
          go_ret
          exact ⟨ret_b HNO.out.symm, HBV.out⟩
        | false =>
          have HI2 := Lib.hid (take_eq_take HI.out HYY.out (show ls[i]? = some y by rw [show y = z by simpa using hyz]; exact HZZ.out))
          have hnb : n ≤ 1000000 := by rw [HN.out]; exact H1.out
          clear hyz
          go_wp2_with fail
          cases gk with
          | zero => omega
          | succ gk =>
            go_roundg gk
            case measure => omega
            case rel => exact ⟨i + 1, by omega, by omega, by simp, HBV, HI2⟩

set_option maxRecDepth 100000 in
set_option maxHeartbeats 8000000 in
theorem eqints61 (v u : Value) (ks ls : List Int) (w : World) (h : IntsV w v ks) (k : IntsV w u ls) (h1 : ks.length ≤ 1000000) :
    Calls Tryz.prog 61 #[v, u] w fun e w' => e = .returned (.bool (decide (ks = ls))) ∧ Below w.heap.size w w' := by
  obtain ⟨A, c, rfl, hc, h⟩ := h
  obtain ⟨A2, c2, rfl, hc2, k⟩ := k
  obtain ⟨n, hn⟩ : ∃ n, n = ks.length := ⟨_, rfl⟩
  obtain ⟨n2, hn2⟩ : ∃ n, n = ls.length := ⟨_, rfl⟩
  rw [← hn, ← hn2]
  have H := Lib.hid h; have K := Lib.hid k; have HN := Lib.hid hn; have HN2 := Lib.hid hn2; have H1 := Lib.hid h1
  obtain ⟨res, hres⟩ : ∃ r, r = decide (ks = ls) := ⟨_, rfl⟩
  rw [← hres]
  have HR := Lib.hid hres
  clear h k hn hn2 hc hc2 h1 hres
  go_enter Tryz.func61, Tryz.ntmps61
  by_cases hnn : n = n2
  case neg =>
    have hb : ((n : Int) != (n2 : Int)) = true := by simp; omega
    have HNO := Lib.hid (show res = false by rw [HR.out]; exact decide_eq_false (fun e => hnn (by rw [HN.out, HN2.out, e])))
    clear hnn
    go_wp2_with fail
    go_ret
    exact ⟨ret_b HNO.out.symm, Below.refl _ _⟩
  case pos =>
    subst hnn
    have hb : ((n : Int) != (n : Int)) = false := by simp
    go_wp2_with fail
    go_loopg [13] n (fun gk v wr => ∃ i : Nat, i ≤ n ∧ n - i ≤ gk ∧ v = .int .i64 i ∧ Hid (Below w.heap.size w wr) ∧ Hid (ks.take i = ls.take i))
    case atStart => exact ⟨0, Nat.zero_le _, Nat.le_refl _, rfl, Lib.hid (Below.refl _ _), Lib.hid (by simp)⟩
    case round =>
      obtain ⟨i, hi, hgk, rfl, HB, HI⟩ := hrel
      by_cases hlt : i < n
      case neg =>
        have q : decide ((i : Int) < (n : Int)) = false := decide_eq_false (by omega)
        have HY := Lib.hid (show res = true by
          have := HI.out
          rw [List.take_of_length_le (by rw [← HN.out]; omega), List.take_of_length_le (by rw [← HN2.out]; omega)] at this
          rw [HR.out]
          exact decide_eq_true this)
        go_wp2_with fail
        go_ret
        exact ⟨ret_b HY.out.symm, HB.out⟩
      case pos =>
        have q : decide ((i : Int) < (n : Int)) = true := decide_eq_true (by omega)
        obtain ⟨y, hy⟩ : ∃ y, ks[i]? = some y := ⟨_, List.getElem?_eq_getElem (by rw [← HN.out]; exact hlt)⟩
        obtain ⟨z, hz⟩ : ∃ y, ls[i]? = some y := ⟨_, List.getElem?_eq_getElem (by rw [← HN2.out]; exact hlt)⟩
        obtain ⟨ab, ao, rfl, hat⟩ : ∃ b o, A = some ⟨b, o, none⟩ ∧ wr.cell? ⟨b, o + i * 1, none⟩ = some (.int .i64 y) := by
          rcases H.out with e | ⟨b, o, e, q⟩
          · rw [e] at hy; simp at hy
          · exact ⟨b, o, e, get_b HB.out (q i y hy)⟩
        obtain ⟨cb, co, rfl, hat2⟩ : ∃ b o, A2 = some ⟨b, o, none⟩ ∧ wr.cell? ⟨b, o + i * 1, none⟩ = some (.int .i64 z) := by
          rcases K.out with e | ⟨b, o, e, q⟩
          · rw [e] at hz; simp at hz
          · exact ⟨b, o, e, get_b HB.out (q i z hz)⟩
        rw [Nat.mul_one] at hat hat2
        have HYA := Lib.hid hat; have HZA := Lib.hid hat2; have HYY := Lib.hid hy; have HZZ := Lib.hid hz; have HII := Lib.hid (show (i : Int) < (n : Int) by omega)
        clear hat hat2 hy hz
        go_upto_region 6 with fail
        refine wp_region_valsA [(none, .slice (some ⟨ab, ao, none⟩) n c), (none, .int .i64 (i : Int)), (none, .pointer (some ⟨ab, ao + i, none⟩)), (none, .int .i64 y), (none, .slice (some ⟨cb, co, none⟩) n c2), (none, .int .i64 (i : Int)), (none, .pointer (some ⟨cb, co + i, none⟩)), (none, .int .i64 z), (none, .bool (y != z))] mixed (by kernel_rfl) ?_
        intro FF AA hA hF
        have hL : HasL FF [(0, .slice (some ⟨ab, ao, none⟩) n c), (1, .slice (some ⟨cb, co, none⟩) n c2), (5, .int .i64 (i : Int)), (16, .slice (some ⟨ab, ao, none⟩) n c), (17, .int .i64 (i : Int)), (18, .pointer (some ⟨ab, ao + i, none⟩)), (19, .int .i64 y), (20, .slice (some ⟨cb, co, none⟩) n c2), (21, .int .i64 (i : Int)), (22, .pointer (some ⟨cb, co + i, none⟩)), (23, .int .i64 z), (24, .bool (y != z))] := by unfold HasL; rw [hF, hA]; kernel_rfl
        have HF := Lib.hid hF; clear hF; have HA := Lib.hid hA; clear hA
        refine ⟨?_, ?_⟩
        · intro V hV
          repeat clear ‹∀ (a : Act) (w : World), Code.wp Tryz.prog _ _ a w → _›
          have gff := gd_ff
          have gtt := gd_tt
          have hi0 := HII.out
          exact
          ResL.cons (OpRes.val (by have a0 := hL.at 0 rfl; go_simp)) (
          ResL.cons (OpRes.val (by have a5 := hL.at 2 rfl; go_simp)) (
          ResL.cons (OpRes.val (by have a16 := hL.at 3 rfl; have a17 := hL.at 4 rfl; go_simp)) (
          ResL.cons (OpRes.val (by have a18 := hL.at 5 rfl; have kk := get_b hV HYA.out; go_simp)) (
          ResL.cons (OpRes.val (by have a1 := hL.at 1 rfl; go_simp)) (
          ResL.cons (OpRes.val (by have a5 := hL.at 2 rfl; go_simp)) (
          ResL.cons (OpRes.val (by have a20 := hL.at 7 rfl; have a21 := hL.at 8 rfl; go_simp)) (
          ResL.cons (OpRes.val (by have a22 := hL.at 9 rfl; have kk := get_b hV HZA.out; go_simp)) (
          ResL.cons (OpRes.val (by have a19 := hL.at 6 rfl; have a23 := hL.at 10 rfl; go_simp)) (
          ResL.nil)))))))))
        intro V hV
        clear hL
        obtain ⟨gg, hFF⟩ : ∃ gg : Nat → Value, FF = putL [(16, gg 16), (17, gg 17), (18, gg 18), (19, gg 19), (20, gg 20), (21, gg 21), (22, gg 22), (23, gg 23), (24, .bool (y != z))] AA := ⟨fun k => FF.tmps.getD k undef, by rw [HF.out, HA.out]; kernel_rfl⟩
        clear HF
        rw [HA.out] at hFF; clear HA
        simp only [putL, Act.put, List.setIfInBounds_toArray, List.set_cons_zero, List.set_cons_succ] at hFF
        subst hFF
        refine wpList_nil ?_
        have HBV := Lib.hid (HB.out.trans (hV.mono HB.out.size)); clear hV
        cases hyz : (y != z) with
        | true =>
          have HNO := Lib.hid (show res = false by
            rw [HR.out]
            refine decide_eq_false fun e => ?_
            have e1 := HYY.out
            rw [e, HZZ.out] at e1
            injection e1 with e1
            rw [e1] at hyz
            simp at hyz)
          clear hyz
          go_wp2_with fail
          go_ret
          exact ⟨ret_b HNO.out.symm, HBV.out⟩
        | false =>
          have HI2 := Lib.hid (take_eq_take HI.out HYY.out (show ls[i]? = some y by rw [show y = z by simpa using hyz]; exact HZZ.out))
          have hnb : n ≤ 1000000 := by rw [HN.out]; exact H1.out
          clear hyz
          go_wp2_with fail
          cases gk with
          | zero => omega
          | succ gk =>
            go_roundg gk
            case measure => omega
            case rel => exact ⟨i + 1, by omega, by omega, by simp, HBV, HI2⟩

set_option maxRecDepth 100000 in
set_option maxHeartbeats 8000000 in
theorem eqints63 (v u : Value) (ks ls : List Int) (w : World) (h : IntsV w v ks) (k : IntsV w u ls) (h1 : ks.length ≤ 1000000) :
    Calls Tryz.prog 63 #[v, u] w fun e w' => e = .returned (.bool (decide (ks = ls))) ∧ Below w.heap.size w w' := by
  obtain ⟨A, c, rfl, hc, h⟩ := h
  obtain ⟨A2, c2, rfl, hc2, k⟩ := k
  obtain ⟨n, hn⟩ : ∃ n, n = ks.length := ⟨_, rfl⟩
  obtain ⟨n2, hn2⟩ : ∃ n, n = ls.length := ⟨_, rfl⟩
  rw [← hn, ← hn2]
  have H := Lib.hid h; have K := Lib.hid k; have HN := Lib.hid hn; have HN2 := Lib.hid hn2; have H1 := Lib.hid h1
  obtain ⟨res, hres⟩ : ∃ r, r = decide (ks = ls) := ⟨_, rfl⟩
  rw [← hres]
  have HR := Lib.hid hres
  clear h k hn hn2 hc hc2 h1 hres
  go_enter Tryz.func63, Tryz.ntmps63
  by_cases hnn : n = n2
  case neg =>
    have hb : ((n : Int) != (n2 : Int)) = true := by simp; omega
    have HNO := Lib.hid (show res = false by rw [HR.out]; exact decide_eq_false (fun e => hnn (by rw [HN.out, HN2.out, e])))
    clear hnn
    go_wp2_with fail
    go_ret
    exact ⟨ret_b HNO.out.symm, Below.refl _ _⟩
  case pos =>
    subst hnn
    have hb : ((n : Int) != (n : Int)) = false := by simp
    go_wp2_with fail
    go_loopg [5] n (fun gk v wr => ∃ i : Nat, i ≤ n ∧ n - i ≤ gk ∧ v = .int .i64 i ∧ Hid (Below w.heap.size w wr) ∧ Hid (ks.take i = ls.take i))
    case atStart => exact ⟨0, Nat.zero_le _, Nat.le_refl _, rfl, Lib.hid (Below.refl _ _), Lib.hid (by simp)⟩
    case round =>
      obtain ⟨i, hi, hgk, rfl, HB, HI⟩ := hrel
      by_cases hlt : i < n
      case neg =>
        have q : decide ((i : Int) < (n : Int)) = false := decide_eq_false (by omega)
        have HY := Lib.hid (show res = true by
          have := HI.out
          rw [List.take_of_length_le (by rw [← HN.out]; omega), List.take_of_length_le (by rw [← HN2.out]; omega)] at this
          rw [HR.out]
          exact decide_eq_true this)
        go_wp2_with fail
        go_ret
        exact ⟨ret_b HY.out.symm, HB.out⟩
      case pos =>
        have q : decide ((i : Int) < (n : Int)) = true := decide_eq_true (by omega)
        obtain ⟨y, hy⟩ : ∃ y, ks[i]? = some y := ⟨_, List.getElem?_eq_getElem (by rw [← HN.out]; exact hlt)⟩
        obtain ⟨z, hz⟩ : ∃ y, ls[i]? = some y := ⟨_, List.getElem?_eq_getElem (by rw [← HN2.out]; exact hlt)⟩
        obtain ⟨ab, ao, rfl, hat⟩ : ∃ b o, A = some ⟨b, o, none⟩ ∧ wr.cell? ⟨b, o + i * 1, none⟩ = some (.int .i64 y) := by
          rcases H.out with e | ⟨b, o, e, q⟩
          · rw [e] at hy; simp at hy
          · exact ⟨b, o, e, get_b HB.out (q i y hy)⟩
        obtain ⟨cb, co, rfl, hat2⟩ : ∃ b o, A2 = some ⟨b, o, none⟩ ∧ wr.cell? ⟨b, o + i * 1, none⟩ = some (.int .i64 z) := by
          rcases K.out with e | ⟨b, o, e, q⟩
          · rw [e] at hz; simp at hz
          · exact ⟨b, o, e, get_b HB.out (q i z hz)⟩
        rw [Nat.mul_one] at hat hat2
        have HYA := Lib.hid hat; have HZA := Lib.hid hat2; have HYY := Lib.hid hy; have HZZ := Lib.hid hz; have HII := Lib.hid (show (i : Int) < (n : Int) by omega)
        clear hat hat2 hy hz
        go_upto_region 6 with fail
        refine wp_region_valsA [(none, .slice (some ⟨ab, ao, none⟩) n c), (none, .int .i64 (i : Int)), (none, .pointer (some ⟨ab, ao + i, none⟩)), (none, .int .i64 y), (none, .slice (some ⟨cb, co, none⟩) n c2), (none, .int .i64 (i : Int)), (none, .pointer (some ⟨cb, co + i, none⟩)), (none, .int .i64 z), (none, .bool (y != z))] mixed (by kernel_rfl) ?_
        intro FF AA hA hF
        have hL : HasL FF [(0, .slice (some ⟨ab, ao, none⟩) n c), (1, .slice (some ⟨cb, co, none⟩) n c2), (5, .int .i64 (i : Int)), (17, .slice (some ⟨ab, ao, none⟩) n c), (18, .int .i64 (i : Int)), (19, .pointer (some ⟨ab, ao + i, none⟩)), (20, .int .i64 y), (21, .slice (some ⟨cb, co, none⟩) n c2), (22, .int .i64 (i : Int)), (23, .pointer (some ⟨cb, co + i, none⟩)), (24, .int .i64 z), (25, .bool (y != z))] := by unfold HasL; rw [hF, hA]; kernel_rfl
        have HF := Lib.hid hF; clear hF; have HA := Lib.hid hA; clear hA
        refine ⟨?_, ?_⟩
        · intro V hV
          repeat clear ‹∀ (a : Act) (w : World), Code.wp Tryz.prog _ _ a w → _›
          have gff := gd_ff
          have gtt := gd_tt
          have hi0 := HII.out
          exact
          ResL.cons (OpRes.val (by have a0 := hL.at 0 rfl; go_simp)) (
          ResL.cons (OpRes.val (by have a5 := hL.at 2 rfl; go_simp)) (
          ResL.cons (OpRes.val (by have a17 := hL.at 3 rfl; have a18 := hL.at 4 rfl; go_simp)) (
          ResL.cons (OpRes.val (by have a19 := hL.at 5 rfl; have kk := get_b hV HYA.out; go_simp)) (
          ResL.cons (OpRes.val (by have a1 := hL.at 1 rfl; go_simp)) (
          ResL.cons (OpRes.val (by have a5 := hL.at 2 rfl; go_simp)) (
          ResL.cons (OpRes.val (by have a21 := hL.at 7 rfl; have a22 := hL.at 8 rfl; go_simp)) (
          ResL.cons (OpRes.val (by have a23 := hL.at 9 rfl; have kk := get_b hV HZA.out; go_simp)) (
          ResL.cons (OpRes.val (by have a20 := hL.at 6 rfl; have a24 := hL.at 10 rfl; go_simp)) (
          ResL.nil)))))))))
        intro V hV
        clear hL
        obtain ⟨gg, hFF⟩ : ∃ gg : Nat → Value, FF = putL [(17, gg 17), (18, gg 18), (19, gg 19), (20, gg 20), (21, gg 21), (22, gg 22), (23, gg 23), (24, gg 24), (25, .bool (y != z))] AA := ⟨fun k => FF.tmps.getD k undef, by rw [HF.out, HA.out]; kernel_rfl⟩
        clear HF
        rw [HA.out] at hFF; clear HA
        simp only [putL, Act.put, List.setIfInBounds_toArray, List.set_cons_zero, List.set_cons_succ] at hFF
        subst hFF
        refine wpList_nil ?_
        have HBV := Lib.hid (HB.out.trans (hV.mono HB.out.size)); clear hV
        cases hyz : (y != z) with
        | true =>
          have HNO := Lib.hid (show res = false by
            rw [HR.out]
            refine decide_eq_false fun e => ?_
            have e1 := HYY.out
            rw [e, HZZ.out] at e1
            injection e1 with e1
            rw [e1] at hyz
            simp at hyz)
          clear hyz
          go_wp2_with fail
          go_ret
          exact ⟨ret_b HNO.out.symm, HBV.out⟩
        | false =>
          have HI2 := Lib.hid (take_eq_take HI.out HYY.out (show ls[i]? = some y by rw [show y = z by simpa using hyz]; exact HZZ.out))
          have hnb : n ≤ 1000000 := by rw [HN.out]; exact H1.out
          clear hyz
          go_wp2_with fail
          cases gk with
          | zero => omega
          | succ gk =>
            go_roundg gk
            case measure => omega
            case rel => exact ⟨i + 1, by omega, by omega, by simp, HBV, HI2⟩
end Go.Proofs.YtgdibfnpkcdiiaaGreatDoor

/- Are two programs the same (three's Same). By an AI agent. -/
namespace Go.Proofs.YtgdibfnpkcdiiaaGreatDoor
open Go.RowKit

theorem enter57 (a b : Value) (W : World) : (callFunc 57 #[a, b]).run Tryz.prog W = .ok (.enter 57 #[a, b]) W := by kernel_rfl
theorem enter59 (a b p : Value) (W : World) : (callFunc 59 #[a, b, p]).run Tryz.prog W = .ok (.enter 59 #[a, b, p]) W := by kernel_rfl
theorem numbers_len (x : In) : (numbersW x).length = 9 + x.args.length := by simp [numbersW]; omega
set_option maxRecDepth 100000 in
set_option maxHeartbeats 8000000 in
theorem same1 (x y : InV) (w : World) (hx : IntsV w x.2 x.1.args) (hy : IntsV w y.2 y.1.args) (hox : InOk x.1) (hoy : InOk y.1) (hxl : x.1.args.length ≤ 1000) (hyl : y.1.args.length ≤ 1000) :
    Calls Tryz.prog 57 #[insV x, insV y] w fun e w' => e = .returned (.bool (decide (x.1 = y.1))) ∧ Below w.heap.size w w' := by
  obtain ⟨x, xv⟩ := x
  obtain ⟨y, yv⟩ := y
  have hcx : ∀ W, Below w.heap.size w W → Calls Tryz.prog 54 #[insV (x, xv)] W fun e w' => ∃ v, e = .returned v ∧ IntsV w' v (numbersW x) ∧ Below W.heap.size W w' := fun W hW => nums_any (x, xv) W (hx.below hW) (by omega) hox.op hox.bin
  have hcy : ∀ W, Below w.heap.size w W → Calls Tryz.prog 54 #[insV (y, yv)] W fun e w' => ∃ v, e = .returned v ∧ IntsV w' v (numbersW y) ∧ Below W.heap.size W w' := fun W hW => nums_any (y, yv) W (hy.below hW) (by omega) hoy.op hoy.bin
  have hlx : (numbersW x).length ≤ 1000000 := by rw [numbers_len]; dsimp only at hxl; omega
  have heq : decide (x = y) = decide (numbersW x = numbersW y) := decide_eq_decide.2 ⟨fun h => by rw [h], numbers_inj⟩
  obtain ⟨X, cx, hxv, _, _⟩ := hx
  obtain ⟨Y, cy, hyv, _, _⟩ := hy
  dsimp only at hxv hyv
  subst hxv; subst hyv
  unfold insV at hcx hcy ⊢
  dsimp only at hcx hcy ⊢
  have HCX := Lib.hid hcx; have HCY := Lib.hid hcy; have HLX := Lib.hid hlx; have HEQ := Lib.hid heq
  clear hcx hcy hlx heq hox hoy hxl hyl
  generalize decide (x = y) = res at HEQ ⊢
  go_enter Tryz.func57, Tryz.ntmps57
  go_upto_region 1 with fail
  have bx := (Blk.new w 71 #[.int .u8 x.op, .int .i64 x.v, .int .i64 x.a, .int .i64 x.b, .int .i64 x.n, .int .u8 x.bin, .slice X x.args.length cx, .int .i64 x.f, .int .i64 x.arr, .int .i64 x.to]).alloc (.cells #[.int .u8 y.op, .int .i64 y.v, .int .i64 y.a, .int .i64 y.b, .int .i64 y.n, .int .u8 y.bin, .slice Y y.args.length cy, .int .i64 y.f, .int .i64 y.arr, .int .i64 y.to] 71)
  have by' := Blk.new (w.alloc (.cells #[.int .u8 x.op, .int .i64 x.v, .int .i64 x.a, .int .i64 x.b, .int .i64 x.n, .int .u8 x.bin, .slice X x.args.length cx, .int .i64 x.f, .int .i64 x.arr, .int .i64 x.to] 71)) 71 #[.int .u8 y.op, .int .i64 y.v, .int .i64 y.a, .int .i64 y.b, .int .i64 y.n, .int .u8 y.bin, .slice Y y.args.length cy, .int .i64 y.f, .int .i64 y.arr, .int .i64 y.to]
  have hb0 : Below w.heap.size w ((w.alloc (.cells #[.int .u8 x.op, .int .i64 x.v, .int .i64 x.a, .int .i64 x.b, .int .i64 x.n, .int .u8 x.bin, .slice X x.args.length cx, .int .i64 x.f, .int .i64 x.arr, .int .i64 x.to] 71)).alloc (.cells #[.int .u8 y.op, .int .i64 y.v, .int .i64 y.a, .int .i64 y.b, .int .i64 y.n, .int .u8 y.bin, .slice Y y.args.length cy, .int .i64 y.f, .int .i64 y.arr, .int .i64 y.to] 71)) := ((Below.refl _ _).alloc (Nat.le_refl _) _).alloc (by simp) _
  obtain ⟨W0, hW0⟩ : ∃ W0, W0 = (w.alloc (.cells #[.int .u8 x.op, .int .i64 x.v, .int .i64 x.a, .int .i64 x.b, .int .i64 x.n, .int .u8 x.bin, .slice X x.args.length cx, .int .i64 x.f, .int .i64 x.arr, .int .i64 x.to] 71)).alloc (.cells #[.int .u8 y.op, .int .i64 y.v, .int .i64 y.a, .int .i64 y.b, .int .i64 y.n, .int .u8 y.bin, .slice Y y.args.length cy, .int .i64 y.f, .int .i64 y.arr, .int .i64 y.to] 71) := ⟨_, rfl⟩
  simp only [World.size_alloc] at by'
  rw [← hW0] at bx by' hb0 ⊢
  clear hW0
  have HB0 := Lib.hid hb0; have BX := Lib.hid bx; have BY := Lib.hid by'
  clear hb0 bx by'
  refine wp_region_float [some (none, .agg #[.int .u8 x.op, .int .i64 x.v, .int .i64 x.a, .int .i64 x.b, .int .i64 x.n, .int .u8 x.bin, .slice X x.args.length cx, .int .i64 x.f, .int .i64 x.arr, .int .i64 x.to]), none, some (none, .agg #[.int .u8 y.op, .int .i64 y.v, .int .i64 y.a, .int .i64 y.b, .int .i64 y.n, .int .u8 y.bin, .slice Y y.args.length cy, .int .i64 y.f, .int .i64 y.arr, .int .i64 y.to]), none, none, none] (fun W => Below W0.heap.size W0 W) 4 mixed (fun _ a a2 _ hd h => by cases a; cases a2; cases hd; exact h) (by kernel_rfl) (fun _ _ h => h) ?_
  intro FF AA Wd hA hF hWh hWd
  have hL : HasL FF [(2, .pointer (some ⟨w.heap.size, 0, none⟩)), (3, .pointer (some ⟨(w.heap.size + 1), 0, none⟩)), (5, .agg #[.int .u8 x.op, .int .i64 x.v, .int .i64 x.a, .int .i64 x.b, .int .i64 x.n, .int .u8 x.bin, .slice X x.args.length cx, .int .i64 x.f, .int .i64 x.arr, .int .i64 x.to]), (7, .agg #[.int .u8 y.op, .int .i64 y.v, .int .i64 y.a, .int .i64 y.b, .int .i64 y.n, .int .u8 y.bin, .slice Y y.args.length cy, .int .i64 y.f, .int .i64 y.arr, .int .i64 y.to])] := by unfold HasL; rw [hF, hA]; kernel_rfl
  have HF := Lib.hid hF; clear hF; have HA := Lib.hid hA; clear hA
  refine ⟨?_, ?_⟩
  · intro W hW
    repeat clear ‹∀ (a : Act) (w : World), Code.wp Tryz.prog _ _ a w → _›
    have gff := gd_ff
    have gtt := gd_tt
    exact
    ResF.cons (FlRes.val (by have a2 := hL.at 0 rfl; have s0 := get_b hW (BX.out.cell 0); have s1 := get_b hW (BX.out.cell 1); have s2 := get_b hW (BX.out.cell 2); have s3 := get_b hW (BX.out.cell 3); have s4 := get_b hW (BX.out.cell 4); have s5 := get_b hW (BX.out.cell 5); have s6 := get_b hW (BX.out.cell 6); have s7 := get_b hW (BX.out.cell 7); have s8 := get_b hW (BX.out.cell 8); have s9 := get_b hW (BX.out.cell 9); go_simp)) (
    ResF.pass (
    ResF.cons (FlRes.val (by have a3 := hL.at 1 rfl; have s0 := get_b hW (BY.out.cell 0); have s1 := get_b hW (BY.out.cell 1); have s2 := get_b hW (BY.out.cell 2); have s3 := get_b hW (BY.out.cell 3); have s4 := get_b hW (BY.out.cell 4); have s5 := get_b hW (BY.out.cell 5); have s6 := get_b hW (BY.out.cell 6); have s7 := get_b hW (BY.out.cell 7); have s8 := get_b hW (BY.out.cell 8); have s9 := get_b hW (BY.out.cell 9); go_simp)) (
    ResF.pass (
    ResF.pass (
    ResF.pass (
    ResF.nil))))))
  clear hL
  obtain ⟨gf, hFF⟩ : ∃ gf : Nat → Value, FF = putL [(5, .agg #[.int .u8 x.op, .int .i64 x.v, .int .i64 x.a, .int .i64 x.b, .int .i64 x.n, .int .u8 x.bin, .slice X x.args.length cx, .int .i64 x.f, .int .i64 x.arr, .int .i64 x.to]), (7, .agg #[.int .u8 y.op, .int .i64 y.v, .int .i64 y.a, .int .i64 y.b, .int .i64 y.n, .int .u8 y.bin, .slice Y y.args.length cy, .int .i64 y.f, .int .i64 y.arr, .int .i64 y.to])] AA := ⟨fun k => FF.tmps.getD k undef, by rw [HF.out, HA.out]; kernel_rfl⟩
  clear HF
  rw [HA.out] at hFF; clear HA
  simp only [putL, Act.put, List.setIfInBounds_toArray, List.set_cons_zero, List.set_cons_succ] at hFF
  subst hFF
  refine wpAnyS_one 1 rfl (by kernel_rfl) (fun KK hK => ?_)
  go_simp
  refine (HCX.out Wd (HB0.out.trans (hWd.mono HB0.out.size))).mono ?_
  rintro e w1 ⟨v1, rfl, hv1, hb1⟩
  refine hK.out _ _ (Or.inl (hWd.trans (hb1.mono hWd.size))) ?_
  clear hK
  refine wpAnyS_one 3 rfl (by kernel_rfl) (fun KK hK => ?_)
  go_simp
  refine (HCY.out w1 (HB0.out.trans ((hWd.trans (hb1.mono hWd.size)).mono HB0.out.size))).mono ?_
  rintro e w2 ⟨v2, rfl, hv2, hb2⟩
  have hb3 := hWd.trans ((hb1.trans (hb2.mono hb1.size)).mono hWd.size)
  refine hK.out _ _ (Or.inl hb3) ?_
  clear hK
  refine wpAnyS_one 4 rfl (by kernel_rfl) (fun KK hK => ?_)
  go_simp
  refine (eqints58 v1 v2 _ _ w2 (hv1.below hb2) hv2 HLX.out).mono ?_
  rintro e w3 ⟨rfl, hb4⟩
  have hb5 := hb3.trans (hb4.mono hb3.size)
  refine hK.out _ _ (Or.inl hb5) ?_
  clear hK
  refine wpAnyS_one 5 rfl (by kernel_rfl) (fun KK hK => ?_)
  go_simp
  refine hK.out _ _ (Or.inl hb5) ?_
  refine wpAnyS_end (by kernel_rfl) ?_
  have HB5 := Lib.hid (HB0.out.trans (hb5.mono HB0.out.size))
  clear hK hb1 hb2 hb3 hb4 hb5 hv1 hv2 hWd hWh HCX HCY
  go_wp2_with fail
  go_ret
  exact ⟨ret_b HEQ.out.symm, HB5.out⟩
end Go.Proofs.YtgdibfnpkcdiiaaGreatDoor

/- Are two functions, two programs the same (three's Same). By an AI agent. -/
namespace Go.Proofs.YtgdibfnpkcdiiaaGreatDoor
open Go.RowKit

/-- What is asked of a function that is compared. -/
structure FnT (f : FnP) : Prop where
  ok : FnOk f
  len : f.code.length ≤ 1000000
  args : ∀ x ∈ f.code, x.args.length ≤ 1000
structure PrT (p : PrW) : Prop where
  arrays : p.arrays.length ≤ 1000000
  fns : p.fns.length ≤ 1000000
  fn : ∀ f ∈ p.fns, FnT f
theorem fnp_eq (f g : FnP) : decide (f = g) = ((f.name == g.name) && (f.params == g.params) && (f.vars == g.vars) && decide (f.code = g.code)) := by
  obtain ⟨a, b, c, d⟩ := f
  obtain ⟨a', b', c', d'⟩ := g
  rw [Bool.eq_iff_iff]
  simp [and_assoc]
theorem prw_eq (f g : PrW) : decide (f = g) = ((f.main == g.main) && decide (f.arrays = g.arrays) && decide (f.fns = g.fns)) := by
  obtain ⟨a, b, c⟩ := f
  obtain ⟨a', b', c'⟩ := g
  rw [Bool.eq_iff_iff]
  simp
  constructor
  · rintro ⟨h1, h2, h3⟩; exact ⟨⟨h3, h1⟩, h2⟩
  · rintro ⟨⟨h3, h1⟩, h2⟩; exact ⟨h1, h2, h3⟩
theorem ins_of {w : World} {v : Value} {l : List InV} {x : InV} (h : InsV w v l) (hx : x ∈ l) : IntsV w x.2 x.1.args := by
  obtain ⟨j, hj⟩ := List.mem_iff_getElem?.1 hx
  obtain ⟨_, _, _, _, e | ⟨b, o, e, k⟩⟩ := h
  · rw [e] at hj; simp at hj
  · exact (k j x hj).args
theorem fn_of {w : World} {v : Value} {l : List FnG} {x : FnG} (h : FnsV w v l) (hx : x ∈ l) : InsV w x.cv x.l ∧ x.l.map (·.1) = x.fn.code := by
  obtain ⟨j, hj⟩ := List.mem_iff_getElem?.1 hx
  obtain ⟨_, _, _, _, e | ⟨b, o, e, k⟩⟩ := h
  · rw [e] at hj; simp at hj
  · exact ⟨(k j x hj).code, (k j x hj).eq⟩
set_option maxRecDepth 100000 in
set_option maxHeartbeats 8000000 in
theorem same2 (f g : FnG) (bq : Nat) (w : World) (hf : InsV w f.cv f.l) (hfe : f.l.map (·.1) = f.fn.code) (hg : InsV w g.cv g.l) (hge : g.l.map (·.1) = g.fn.code) (tf : FnT f.fn) (tg : FnT g.fn) (hq : w.cell? ⟨bq, 0, none⟩ = some (.func (.func 57) #[] #[])) :
    Calls Tryz.prog 59 #[fnV f, fnV g, .pointer (some ⟨bq, 0, none⟩)] w fun e w' => e = .returned (.bool (decide (f.fn = g.fn))) ∧ Below w.heap.size w w' := by
  obtain ⟨f, cv, l⟩ := f
  obtain ⟨g, dv, m⟩ := g
  dsimp only at hf hfe hg hge tf tg
  have hll : l.length ≤ 1000000 := by have := tf.len; rw [← hfe, List.length_map] at this; exact this
  have hml : m.length ≤ 1000000 := by have := tg.len; rw [← hge, List.length_map] at this; exact this
  have hcall : ∀ W, Below w.heap.size w W → Calls Tryz.prog 60 #[cv, dv, .func (.func 57) #[] #[]] W fun e w' => e = .returned (.bool (decide (f.code = g.code))) ∧ Below W.heap.size W w' := by
    intro W hW
    have := eqf_ins cv dv l m 57 W (fun x y => decide (x.1 = y.1)) (hf.below hW) (hg.below hW) hll hml (fun a b U => enter57 a b U) (fun x hx y hy U hU => same1 x y U ((ins_of (hf.below hW) hx).below hU) ((ins_of (hg.below hW) hy).below hU)
      (tf.ok.code _ (by rw [← hfe]; exact List.mem_map.2 ⟨x, hx, rfl⟩)) (tg.ok.code _ (by rw [← hge]; exact List.mem_map.2 ⟨y, hy, rfl⟩)) (tf.args _ (by rw [← hfe]; exact List.mem_map.2 ⟨x, hx, rfl⟩)) (tg.args _ (by rw [← hge]; exact List.mem_map.2 ⟨y, hy, rfl⟩)))
    rw [eqL_map, hfe, hge] at this
    exact this
  obtain ⟨C, cc, hcv, _, _⟩ := hf
  obtain ⟨D, dc, hdv, _, _⟩ := hg
  subst hcv; subst hdv
  have heq := fnp_eq f g
  unfold fnV
  dsimp only
  have bx := (Blk.new w 67 #[.string ⟨f.name.toArray⟩, .int .i64 f.params, .int .i64 f.vars, .slice C l.length cc]).alloc (.cells #[.string ⟨g.name.toArray⟩, .int .i64 g.params, .int .i64 g.vars, .slice D m.length dc] 67)
  have by' := Blk.new (w.alloc (.cells #[.string ⟨f.name.toArray⟩, .int .i64 f.params, .int .i64 f.vars, .slice C l.length cc] 67)) 67 #[.string ⟨g.name.toArray⟩, .int .i64 g.params, .int .i64 g.vars, .slice D m.length dc]
  have hb0 : Below w.heap.size w ((w.alloc (.cells #[.string ⟨f.name.toArray⟩, .int .i64 f.params, .int .i64 f.vars, .slice C l.length cc] 67)).alloc (.cells #[.string ⟨g.name.toArray⟩, .int .i64 g.params, .int .i64 g.vars, .slice D m.length dc] 67)) := ((Below.refl _ _).alloc (Nat.le_refl _) _).alloc (by simp) _
  obtain ⟨tc, htc⟩ : ∃ b, b = decide (f.code = g.code) := ⟨_, rfl⟩
  obtain ⟨tn, htn⟩ : ∃ b, b = (f.name == g.name) := ⟨_, rfl⟩
  rw [← htc] at hcall heq
  rw [← htn] at heq
  generalize decide (f = g) = res at heq ⊢
  obtain ⟨cv, hcv⟩ : ∃ v, v = Value.slice C l.length cc := ⟨_, rfl⟩
  obtain ⟨dv, hdv⟩ : ∃ v, v = Value.slice D m.length dc := ⟨_, rfl⟩
  have HCALL := Lib.hid (fun W (hW : Below w.heap.size w W) => hcall W hW); have HEQ := Lib.hid heq; have Htn := Lib.hid htn; have HQ := Lib.hid (get_b hb0 hq)
  clear hcall heq htn htc hfe hge tf tg hll hml hq
  go_enter Tryz.func59, Tryz.ntmps59
  go_upto_region 1 with fail
  obtain ⟨W0, hW0⟩ : ∃ W0, W0 = (w.alloc (.cells #[.string ⟨f.name.toArray⟩, .int .i64 f.params, .int .i64 f.vars, .slice C l.length cc] 67)).alloc (.cells #[.string ⟨g.name.toArray⟩, .int .i64 g.params, .int .i64 g.vars, .slice D m.length dc] 67) := ⟨_, rfl⟩
  simp only [World.size_alloc] at by'
  rw [← hW0] at bx by' hb0 HQ ⊢
  clear hW0
  rw [← hcv] at bx HCALL
  rw [← hdv] at by' HCALL
  have HB0 := Lib.hid hb0
  have K0 := Lib.hid (bx.cell 0); have K1 := Lib.hid (bx.cell 1); have K2 := Lib.hid (bx.cell 2); have K3 := Lib.hid (bx.cell 3)
  have L0 := Lib.hid (by'.cell 0); have L1 := Lib.hid (by'.cell 1); have L2 := Lib.hid (by'.cell 2); have L3 := Lib.hid (by'.cell 3)
  have HCALL := Lib.hid (fun W (hW : Below W0.heap.size W0 W) => HCALL.out W (HB0.out.trans (hW.mono HB0.out.size)))
  clear hb0 bx by'
  obtain ⟨bb0, hbb0⟩ : ∃ b : Bool, b = (tn && (f.params == g.params)) := ⟨_, rfl⟩
  have Hbb0 := Lib.hid hbb0; clear hbb0
  obtain ⟨bb1, hbb1⟩ : ∃ b : Bool, b = (bb0 && (f.vars == g.vars)) := ⟨_, rfl⟩
  have Hbb1 := Lib.hid hbb1; clear hbb1
  obtain ⟨bb2, hbb2⟩ : ∃ b : Bool, b = (bb1 && tc) := ⟨_, rfl⟩
  have Hbb2 := Lib.hid hbb2; clear hbb2
  refine wp_region_valsA [(none, .pointer (some ⟨w.heap.size, 0, none⟩)), (none, .string ⟨f.name.toArray⟩), (none, .pointer (some ⟨(w.heap.size + 1), 0, none⟩)), (none, .string ⟨g.name.toArray⟩), (none, .bool tn), (none, .bool tn), (some (11, true), gd tn true (.pointer (some ⟨w.heap.size, 1, none⟩))), (some (11, true), gd tn true (.int .i64 f.params)), (some (11, true), gd tn true (.pointer (some ⟨(w.heap.size + 1), 1, none⟩))), (some (11, true), gd tn true (.int .i64 g.params)), (some (11, true), gd tn true (.bool (f.params == g.params))), (none, .bool bb0), (none, .bool bb0), (some (18, true), gd bb0 true (.pointer (some ⟨w.heap.size, 2, none⟩))), (some (18, true), gd bb0 true (.int .i64 f.vars)), (some (18, true), gd bb0 true (.pointer (some ⟨(w.heap.size + 1), 2, none⟩))), (some (18, true), gd bb0 true (.int .i64 g.vars)), (some (18, true), gd bb0 true (.bool (f.vars == g.vars))), (none, .bool bb1), (none, .bool bb1), (some (25, true), gd bb1 true (.pointer (some ⟨w.heap.size, 3, none⟩))), (some (25, true), gd bb1 true (cv)), (some (25, true), gd bb1 true (.pointer (some ⟨(w.heap.size + 1), 3, none⟩))), (some (25, true), gd bb1 true (dv)), (some (25, true), gd bb1 true (.func (.func 57) #[] #[])), (some (25, true), gd bb1 true (.bool tc)), (none, .bool bb2), (none, .bool bb2)] mixed (by kernel_rfl) ?_
  intro FF AA hA hF
  have hL : HasL FF [(2, .pointer (some ⟨bq, 0, none⟩)), (3, .pointer (some ⟨w.heap.size, 0, none⟩)), (4, .pointer (some ⟨(w.heap.size + 1), 0, none⟩)), (6, .pointer (some ⟨w.heap.size, 0, none⟩)), (7, .string ⟨f.name.toArray⟩), (8, .pointer (some ⟨(w.heap.size + 1), 0, none⟩)), (9, .string ⟨g.name.toArray⟩), (10, .bool tn), (11, .bool tn), (12, gd tn true (.pointer (some ⟨w.heap.size, 1, none⟩))), (13, gd tn true (.int .i64 f.params)), (14, gd tn true (.pointer (some ⟨(w.heap.size + 1), 1, none⟩))), (15, gd tn true (.int .i64 g.params)), (16, gd tn true (.bool (f.params == g.params))), (17, .bool bb0), (18, .bool bb0), (19, gd bb0 true (.pointer (some ⟨w.heap.size, 2, none⟩))), (20, gd bb0 true (.int .i64 f.vars)), (21, gd bb0 true (.pointer (some ⟨(w.heap.size + 1), 2, none⟩))), (22, gd bb0 true (.int .i64 g.vars)), (23, gd bb0 true (.bool (f.vars == g.vars))), (24, .bool bb1), (25, .bool bb1), (26, gd bb1 true (.pointer (some ⟨w.heap.size, 3, none⟩))), (27, gd bb1 true (cv)), (28, gd bb1 true (.pointer (some ⟨(w.heap.size + 1), 3, none⟩))), (29, gd bb1 true (dv)), (30, gd bb1 true (.func (.func 57) #[] #[])), (31, gd bb1 true (.bool tc)), (32, .bool bb2), (5, .bool bb2)] := by unfold HasL; rw [hF, hA]; kernel_rfl
  have HF := Lib.hid hF; clear hF; have HA := Lib.hid hA; clear hA
  refine ⟨?_, ?_⟩
  · intro W hW
    repeat clear ‹∀ (a : Act) (w : World), Code.wp Tryz.prog _ _ a w → _›
    have gff := gd_ff
    have gtt := gd_tt
    exact
    ResL.cons (OpRes.val (by have a3 := hL.at 1 rfl; go_simp)) (
    ResL.cons (OpRes.val (by have a6 := hL.at 3 rfl; have kk := get_b hW K0.out; go_simp)) (
    ResL.cons (OpRes.val (by have a4 := hL.at 2 rfl; go_simp)) (
    ResL.cons (OpRes.val (by have a8 := hL.at 5 rfl; have kk := get_b hW L0.out; go_simp)) (
    ResL.cons (OpRes.val (by have a7 := hL.at 4 rfl; have a9 := hL.at 6 rfl; rw [Htn.out]; go_simp)) (
    ResL.cons (OpRes.val (by have a10 := hL.at 7 rfl; go_simp)) (
    ResL.cons (OpRes.gval (hL.at 8 rfl) (fun e0 => by have a3 := hL.at 1 rfl; subst e0; go_simp)) (
    ResL.cons (OpRes.gval (hL.at 8 rfl) (fun e0 => by have a12 := hL.at 9 rfl; have kk := get_b hW K1.out; subst e0; go_simp)) (
    ResL.cons (OpRes.gval (hL.at 8 rfl) (fun e0 => by have a4 := hL.at 2 rfl; subst e0; go_simp)) (
    ResL.cons (OpRes.gval (hL.at 8 rfl) (fun e0 => by have a14 := hL.at 11 rfl; have kk := get_b hW L1.out; subst e0; go_simp)) (
    ResL.cons (OpRes.gval (hL.at 8 rfl) (fun e0 => by have a13 := hL.at 10 rfl; have a15 := hL.at 12 rfl; subst e0; go_simp)) (
    ResL.cons (OpRes.val (by rw [Hbb0.out]; have a11 := hL.at 8 rfl; have a16 := hL.at 13 rfl; cases tn <;> go_simp)) (
    ResL.cons (OpRes.val (by have a17 := hL.at 14 rfl; go_simp)) (
    ResL.cons (OpRes.gval (hL.at 15 rfl) (fun e0 => by have a3 := hL.at 1 rfl; subst e0; go_simp)) (
    ResL.cons (OpRes.gval (hL.at 15 rfl) (fun e0 => by have a19 := hL.at 16 rfl; have kk := get_b hW K2.out; subst e0; go_simp)) (
    ResL.cons (OpRes.gval (hL.at 15 rfl) (fun e0 => by have a4 := hL.at 2 rfl; subst e0; go_simp)) (
    ResL.cons (OpRes.gval (hL.at 15 rfl) (fun e0 => by have a21 := hL.at 18 rfl; have kk := get_b hW L2.out; subst e0; go_simp)) (
    ResL.cons (OpRes.gval (hL.at 15 rfl) (fun e0 => by have a20 := hL.at 17 rfl; have a22 := hL.at 19 rfl; subst e0; go_simp)) (
    ResL.cons (OpRes.val (by rw [Hbb1.out]; have a18 := hL.at 15 rfl; have a23 := hL.at 20 rfl; cases bb0 <;> go_simp)) (
    ResL.cons (OpRes.val (by have a24 := hL.at 21 rfl; go_simp)) (
    ResL.cons (OpRes.gval (hL.at 22 rfl) (fun e0 => by have a3 := hL.at 1 rfl; subst e0; go_simp)) (
    ResL.cons (OpRes.gval (hL.at 22 rfl) (fun e0 => by have a26 := hL.at 23 rfl; have kk := get_b hW K3.out; subst e0; go_simp)) (
    ResL.cons (OpRes.gval (hL.at 22 rfl) (fun e0 => by have a4 := hL.at 2 rfl; subst e0; go_simp)) (
    ResL.cons (OpRes.gval (hL.at 22 rfl) (fun e0 => by have a28 := hL.at 25 rfl; have kk := get_b hW L3.out; subst e0; go_simp)) (
    ResL.cons (OpRes.gval (hL.at 22 rfl) (fun e0 => by have a2 := hL.at 0 rfl; have kk := get_b hW HQ.out; subst e0; go_simp)) (
    ResL.cons (OpRes.gcall 60 #[cv, dv, .func (.func 57) #[] #[]] (hL.at 22 rfl) (fun e0 => by have a27 := hL.at 24 rfl; have a29 := hL.at 26 rfl; have a30 := hL.at 27 rfl; subst e0; go_simp) (fun e0 => HCALL.out W hW)) (
    ResL.cons (OpRes.val (by rw [Hbb2.out]; have a25 := hL.at 22 rfl; have a31 := hL.at 28 rfl; cases bb1 <;> go_simp)) (
    ResL.cons (OpRes.val (by have a32 := hL.at 29 rfl; go_simp)) (
    ResL.nil))))))))))))))))))))))))))))
  intro W hW
  clear hL
  obtain ⟨gg, hFF⟩ : ∃ gg : Nat → Value, FF = putL [(6, gg 6), (7, gg 7), (8, gg 8), (9, gg 9), (10, gg 10), (11, gg 11), (12, gg 12), (13, gg 13), (14, gg 14), (15, gg 15), (16, gg 16), (17, gg 17), (18, gg 18), (19, gg 19), (20, gg 20), (21, gg 21), (22, gg 22), (23, gg 23), (24, gg 24), (25, gg 25), (26, gg 26), (27, gg 27), (28, gg 28), (29, gg 29), (30, gg 30), (31, gg 31), (32, gg 32), (5, .bool bb2)] AA := ⟨fun k => FF.tmps.getD k undef, by rw [HF.out, HA.out]; kernel_rfl⟩
  clear HF
  rw [HA.out] at hFF; clear HA
  simp only [putL, Act.put, List.setIfInBounds_toArray, List.set_cons_zero, List.set_cons_succ] at hFF
  subst hFF
  refine wpList_nil ?_
  have HV := Lib.hid (HB0.out.trans (hW.mono HB0.out.size)); clear hW
  have HR := Lib.hid (show bb2 = res by
    have q := HEQ.out
    have qbb0 := Hbb0.out; have qbb1 := Hbb1.out; have qbb2 := Hbb2.out
    subst qbb2 qbb1 qbb0
    rw [q])
  clear HCALL
  go_wp2_with fail
  go_ret
  exact ⟨ret_b HR.out, HV.out⟩

set_option maxRecDepth 100000 in
set_option maxHeartbeats 8000000 in
theorem same_any (g h : PrG) (w : World) (hg : PrR w g) (hh : PrR w h) (tg : PrT g.p) (th : PrT h.p) :
    Calls Tryz.prog 18 #[prV g, prV h] w fun e w' => e = .returned (.bool (decide (g.p = h.p))) ∧ Below w.heap.size w w' := by
  have hca : ∀ W, Below w.heap.size w W → Calls Tryz.prog 61 #[g.av, h.av] W fun e w' => e = .returned (.bool (decide (g.p.arrays = h.p.arrays))) ∧ Below W.heap.size W w' := fun W hW =>
    eqints61 _ _ _ _ W (hg.arrays.below hW) (hh.arrays.below hW) tg.arrays
  have hcf : ∀ W, Below w.heap.size w W → W.cell? ⟨w.heap.size + 1 + 1, 0, none⟩ = some (.func (.func 57) #[] #[]) → Calls Tryz.prog 62 #[g.fv, h.fv, .func (.func 59) #[] #[.pointer (some ⟨w.heap.size + 1 + 1, 0, none⟩)]] W fun e w' => e = .returned (.bool (decide (g.p.fns = h.p.fns))) ∧ Below W.heap.size W w' := by
    intro W hW hq
    have := eqf_fns g.fv h.fv g.l h.l 59 (.pointer (some ⟨w.heap.size + 1 + 1, 0, none⟩)) W (fun x y => decide (x.fn = y.fn)) (hg.fns.below hW) (hh.fns.below hW) (by have := tg.fns; rw [← hg.eq, List.length_map] at this; exact this) (by have := th.fns; rw [← hh.eq, List.length_map] at this; exact this) (fun a b U => enter59 a b _ U) (fun x hx y hy U hU =>
      same2 x y _ U ((fn_of (hg.fns.below hW) hx).1.below hU) (fn_of hg.fns hx).2 ((fn_of (hh.fns.below hW) hy).1.below hU) (fn_of hh.fns hy).2 (tg.fn _ (by rw [← hg.eq]; exact List.mem_map.2 ⟨x, hx, rfl⟩)) (th.fn _ (by rw [← hh.eq]; exact List.mem_map.2 ⟨y, hy, rfl⟩)) (get_b hU hq))
    rw [eqL_map, hg.eq, hh.eq] at this
    exact this
  have heq := prw_eq g.p h.p
  obtain ⟨⟨A, ca, hav, _, _⟩, ⟨F, cf, hfv, _, _⟩, _⟩ := hg
  obtain ⟨⟨A2, ca2, hbv, _, _⟩, ⟨F2, cf2, hgv, _, _⟩, _⟩ := hh
  unfold prV
  obtain ⟨ta, hta⟩ : ∃ b, b = decide (g.p.arrays = h.p.arrays) := ⟨_, rfl⟩
  obtain ⟨tf, htf⟩ : ∃ b, b = decide (g.p.fns = h.p.fns) := ⟨_, rfl⟩
  rw [← hta] at hca heq
  rw [← htf] at hcf heq
  generalize decide (g.p = h.p) = res at heq ⊢
  obtain ⟨av, hav2⟩ : ∃ v, v = g.av := ⟨_, rfl⟩
  obtain ⟨fv, hfv2⟩ : ∃ v, v = g.fv := ⟨_, rfl⟩
  obtain ⟨bv, hbv2⟩ : ∃ v, v = h.av := ⟨_, rfl⟩
  obtain ⟨gv, hgv2⟩ : ∃ v, v = h.fv := ⟨_, rfl⟩
  rw [← hav2, ← hbv2] at hca
  rw [← hfv2, ← hgv2] at hcf
  rw [hav, hfv, hbv, hgv]
  rw [hav] at hav2; rw [hfv] at hfv2; rw [hbv] at hbv2; rw [hgv] at hgv2
  clear hav hfv hbv hgv tg th hta htf
  have HCA := Lib.hid (fun W (hW : Below w.heap.size w W) => hca W hW); have HCF := Lib.hid hcf; have HEQ := Lib.hid heq
  clear hca hcf heq
  go_enter Tryz.func18, Tryz.ntmps18
  go_upto_region 3 with fail
  have b1 := ((Blk.new w 25 #[.slice A g.p.arrays.length ca, .slice F g.l.length cf, .int .i64 g.p.main]).alloc (.cells #[.slice A2 h.p.arrays.length ca2, .slice F2 h.l.length cf2, .int .i64 h.p.main] 25)).alloc (.cells #[.func (.func 57) #[] #[]] 98)
  have b2 := (Blk.new (w.alloc (.cells #[.slice A g.p.arrays.length ca, .slice F g.l.length cf, .int .i64 g.p.main] 25)) 25 #[.slice A2 h.p.arrays.length ca2, .slice F2 h.l.length cf2, .int .i64 h.p.main]).alloc (.cells #[.func (.func 57) #[] #[]] 98)
  have b3 := Blk.new ((w.alloc (.cells #[.slice A g.p.arrays.length ca, .slice F g.l.length cf, .int .i64 g.p.main] 25)).alloc (.cells #[.slice A2 h.p.arrays.length ca2, .slice F2 h.l.length cf2, .int .i64 h.p.main] 25)) 98 #[.func (.func 57) #[] #[]]
  have hb0 : Below w.heap.size w (((w.alloc (.cells #[.slice A g.p.arrays.length ca, .slice F g.l.length cf, .int .i64 g.p.main] 25)).alloc (.cells #[.slice A2 h.p.arrays.length ca2, .slice F2 h.l.length cf2, .int .i64 h.p.main] 25)).alloc (.cells #[.func (.func 57) #[] #[]] 98)) := (((Below.refl _ _).alloc (Nat.le_refl _) _).alloc (by simp) _).alloc (by simp; omega) _
  obtain ⟨W0, hW0⟩ : ∃ W0, W0 = ((w.alloc (.cells #[.slice A g.p.arrays.length ca, .slice F g.l.length cf, .int .i64 g.p.main] 25)).alloc (.cells #[.slice A2 h.p.arrays.length ca2, .slice F2 h.l.length cf2, .int .i64 h.p.main] 25)).alloc (.cells #[.func (.func 57) #[] #[]] 98) := ⟨_, rfl⟩
  simp only [World.size_alloc] at b2 b3
  rw [← hW0] at b1 b2 b3 hb0 ⊢
  clear hW0
  rw [← hav2, ← hfv2] at b1
  rw [← hbv2, ← hgv2] at b2
  have HB0 := Lib.hid hb0
  have K0 := Lib.hid (b1.cell 0); have K1 := Lib.hid (b1.cell 1); have K2 := Lib.hid (b1.cell 2)
  have L0 := Lib.hid (b2.cell 0); have L1 := Lib.hid (b2.cell 1); have L2 := Lib.hid (b2.cell 2)
  have hq : W0.cell? ⟨w.heap.size + 1 + 1, 0, none⟩ = some (.func (.func 57) #[] #[]) := b3.cell 0
  have HCA := Lib.hid (fun W (hW : Below W0.heap.size W0 W) => HCA.out W (HB0.out.trans (hW.mono HB0.out.size)))
  have HCF := Lib.hid (fun W (hW : Below W0.heap.size W0 W) => HCF.out W (HB0.out.trans (hW.mono HB0.out.size)) (get_b hW hq))
  clear hb0 b1 b2 b3 hq
  obtain ⟨bb0, hbb0⟩ : ∃ b : Bool, b = (g.p.main == h.p.main) := ⟨_, rfl⟩
  have Hbb0 := Lib.hid hbb0; clear hbb0
  obtain ⟨bb1, hbb1⟩ : ∃ b : Bool, b = (bb0 && ta) := ⟨_, rfl⟩
  have Hbb1 := Lib.hid hbb1; clear hbb1
  obtain ⟨bb2, hbb2⟩ : ∃ b : Bool, b = (bb1 && tf) := ⟨_, rfl⟩
  have Hbb2 := Lib.hid hbb2; clear hbb2
  refine wp_region_valsA [(none, .pointer (some ⟨w.heap.size, 2, none⟩)), (none, .int .i64 g.p.main), (none, .pointer (some ⟨(w.heap.size + 1), 2, none⟩)), (none, .int .i64 h.p.main), (none, .bool (g.p.main == h.p.main)), (none, .bool bb0), (some (13, true), gd bb0 true (.pointer (some ⟨w.heap.size, 0, none⟩))), (some (13, true), gd bb0 true (av)), (some (13, true), gd bb0 true (.pointer (some ⟨(w.heap.size + 1), 0, none⟩))), (some (13, true), gd bb0 true (bv)), (some (13, true), gd bb0 true (.bool ta)), (none, .bool bb1), (none, .bool bb1), (some (20, true), gd bb1 true (.pointer (some ⟨w.heap.size, 1, none⟩))), (some (20, true), gd bb1 true (fv)), (some (20, true), gd bb1 true (.pointer (some ⟨(w.heap.size + 1), 1, none⟩))), (some (20, true), gd bb1 true (gv)), (some (20, true), gd bb1 true (.func (.func 59) #[] #[.pointer (some ⟨w.heap.size + 1 + 1, 0, none⟩)])), (some (20, true), gd bb1 true (.bool tf)), (none, .bool bb2), (none, .bool bb2)] mixed (by kernel_rfl) ?_
  intro FF AA hA hF
  have hL : HasL FF [(2, .pointer (some ⟨w.heap.size, 0, none⟩)), (3, .pointer (some ⟨(w.heap.size + 1), 0, none⟩)), (6, .func (.func 59) #[] #[.pointer (some ⟨w.heap.size + 1 + 1, 0, none⟩)]), (8, .pointer (some ⟨w.heap.size, 2, none⟩)), (9, .int .i64 g.p.main), (10, .pointer (some ⟨(w.heap.size + 1), 2, none⟩)), (11, .int .i64 h.p.main), (12, .bool (g.p.main == h.p.main)), (13, .bool bb0), (14, gd bb0 true (.pointer (some ⟨w.heap.size, 0, none⟩))), (15, gd bb0 true (av)), (16, gd bb0 true (.pointer (some ⟨(w.heap.size + 1), 0, none⟩))), (17, gd bb0 true (bv)), (18, gd bb0 true (.bool ta)), (19, .bool bb1), (20, .bool bb1), (21, gd bb1 true (.pointer (some ⟨w.heap.size, 1, none⟩))), (22, gd bb1 true (fv)), (23, gd bb1 true (.pointer (some ⟨(w.heap.size + 1), 1, none⟩))), (24, gd bb1 true (gv)), (25, gd bb1 true (.func (.func 59) #[] #[.pointer (some ⟨w.heap.size + 1 + 1, 0, none⟩)])), (26, gd bb1 true (.bool tf)), (27, .bool bb2), (4, .bool bb2)] := by unfold HasL; rw [hF, hA]; kernel_rfl
  have HF := Lib.hid hF; clear hF; have HA := Lib.hid hA; clear hA
  refine ⟨?_, ?_⟩
  · intro W hW
    repeat clear ‹∀ (a : Act) (w : World), Code.wp Tryz.prog _ _ a w → _›
    have gff := gd_ff
    have gtt := gd_tt
    exact
    ResL.cons (OpRes.val (by have a2 := hL.at 0 rfl; go_simp)) (
    ResL.cons (OpRes.val (by have a8 := hL.at 3 rfl; have kk := get_b hW K2.out; go_simp)) (
    ResL.cons (OpRes.val (by have a3 := hL.at 1 rfl; go_simp)) (
    ResL.cons (OpRes.val (by have a10 := hL.at 5 rfl; have kk := get_b hW L2.out; go_simp)) (
    ResL.cons (OpRes.val (by have a9 := hL.at 4 rfl; have a11 := hL.at 6 rfl; go_simp)) (
    ResL.cons (OpRes.val (by rw [Hbb0.out]; have a12 := hL.at 7 rfl; go_simp)) (
    ResL.cons (OpRes.gval (hL.at 8 rfl) (fun e0 => by have a2 := hL.at 0 rfl; subst e0; go_simp)) (
    ResL.cons (OpRes.gval (hL.at 8 rfl) (fun e0 => by have a14 := hL.at 9 rfl; have kk := get_b hW K0.out; subst e0; go_simp)) (
    ResL.cons (OpRes.gval (hL.at 8 rfl) (fun e0 => by have a3 := hL.at 1 rfl; subst e0; go_simp)) (
    ResL.cons (OpRes.gval (hL.at 8 rfl) (fun e0 => by have a16 := hL.at 11 rfl; have kk := get_b hW L0.out; subst e0; go_simp)) (
    ResL.cons (OpRes.gcall 61 #[av, bv] (hL.at 8 rfl) (fun e0 => by have a15 := hL.at 10 rfl; have a17 := hL.at 12 rfl; subst e0; go_simp) (fun e0 => HCA.out W hW)) (
    ResL.cons (OpRes.val (by rw [Hbb1.out]; have a13 := hL.at 8 rfl; have a18 := hL.at 13 rfl; cases bb0 <;> go_simp)) (
    ResL.cons (OpRes.val (by have a19 := hL.at 14 rfl; go_simp)) (
    ResL.cons (OpRes.gval (hL.at 15 rfl) (fun e0 => by have a2 := hL.at 0 rfl; subst e0; go_simp)) (
    ResL.cons (OpRes.gval (hL.at 15 rfl) (fun e0 => by have a21 := hL.at 16 rfl; have kk := get_b hW K1.out; subst e0; go_simp)) (
    ResL.cons (OpRes.gval (hL.at 15 rfl) (fun e0 => by have a3 := hL.at 1 rfl; subst e0; go_simp)) (
    ResL.cons (OpRes.gval (hL.at 15 rfl) (fun e0 => by have a23 := hL.at 18 rfl; have kk := get_b hW L1.out; subst e0; go_simp)) (
    ResL.cons (OpRes.gval (hL.at 15 rfl) (fun e0 => by have a6 := hL.at 2 rfl; subst e0; go_simp)) (
    ResL.cons (OpRes.gcall 62 #[fv, gv, .func (.func 59) #[] #[.pointer (some ⟨w.heap.size + 1 + 1, 0, none⟩)]] (hL.at 15 rfl) (fun e0 => by have a22 := hL.at 17 rfl; have a24 := hL.at 19 rfl; have a25 := hL.at 20 rfl; subst e0; go_simp) (fun e0 => HCF.out W hW)) (
    ResL.cons (OpRes.val (by rw [Hbb2.out]; have a20 := hL.at 15 rfl; have a26 := hL.at 21 rfl; cases bb1 <;> go_simp)) (
    ResL.cons (OpRes.val (by have a27 := hL.at 22 rfl; go_simp)) (
    ResL.nil)))))))))))))))))))))
  intro W hW
  clear hL
  obtain ⟨gg, hFF⟩ : ∃ gg : Nat → Value, FF = putL [(8, gg 8), (9, gg 9), (10, gg 10), (11, gg 11), (12, gg 12), (13, gg 13), (14, gg 14), (15, gg 15), (16, gg 16), (17, gg 17), (18, gg 18), (19, gg 19), (20, gg 20), (21, gg 21), (22, gg 22), (23, gg 23), (24, gg 24), (25, gg 25), (26, gg 26), (27, gg 27), (4, .bool bb2)] AA := ⟨fun k => FF.tmps.getD k undef, by rw [HF.out, HA.out]; kernel_rfl⟩
  clear HF
  rw [HA.out] at hFF; clear HA
  simp only [putL, Act.put, List.setIfInBounds_toArray, List.set_cons_zero, List.set_cons_succ] at hFF
  subst hFF
  refine wpList_nil ?_
  have HV := Lib.hid (HB0.out.trans (hW.mono HB0.out.size)); clear hW
  have HR := Lib.hid (show bb2 = res by
    have q := HEQ.out
    have qbb0 := Hbb0.out; have qbb1 := Hbb1.out; have qbb2 := Hbb2.out
    subst qbb2 qbb1 qbb0
    rw [q])
  clear HCA HCF
  go_wp2_with fail
  go_ret
  exact ⟨ret_b HR.out, HV.out⟩
end Go.Proofs.YtgdibfnpkcdiiaaGreatDoor

/- Library contracts (strconv.FormatInt, strings.Builder), laid at this translation by the kit's laying tool; the records of two of them by a program. No condition. -/
namespace Go.Proofs
open Go.Shelf
def Tryz.lays169_ren : Go.Shelf.Ren := ⟨fun | 169 => 55 | n => n, fun | 70 => 84 | 9 => 9 | 0 => 0 | 72 => 86 | 37 => 74 | 127 => 167 | 3 => 3 | 5 => 5 | n => n, fun | n => n⟩
theorem Tryz.lays169 : Go.Proofs.Lays.n169 Tryz.prog Tryz.lays169_ren := {
  mixed := by kernel_rfl
  f169 := Tryz.func55.trans (congrArg some (by kernel_rfl))
  t0 := Tryz.underlying0
  a0 := Tryz.isAgg0
  z0 := Tryz.sizeOf0
  v0 := Tryz.zeroValue0
  t3 := Tryz.underlying3
  a3 := Tryz.isAgg3
  z3 := Tryz.sizeOf3
  v3 := Tryz.zeroValue3
  t9 := Tryz.underlying9
  a9 := Tryz.isAgg9
  z9 := Tryz.sizeOf9
  v9 := Tryz.zeroValue9
  t37 := Tryz.underlying74
  a37 := Tryz.isAgg74
  z37 := Tryz.sizeOf74
  v37 := Tryz.zeroValue74
  t70 := Tryz.underlying84
  a70 := Tryz.isAgg84
  z70 := Tryz.sizeOf84
  v70 := Tryz.zeroValue84
  t72 := Tryz.underlying86
  a72 := Tryz.isAgg86
  z72 := Tryz.sizeOf86
  v72 := Tryz.zeroValue86
  t127 := Tryz.underlying167
  a127 := Tryz.isAgg167
  z127 := Tryz.sizeOf167
  v127 := Tryz.zeroValue167 }
theorem Tryz.Builder_Extra_169 : Builder.Extra Tryz.prog Tryz.lays169_ren := {
  sizeBuilder := by kernel_rfl
  liesBuilder := by kernel_rfl
  t5 := Tryz.underlying5
  a5 := Tryz.isAgg5
  z5 := Tryz.sizeOf5
  v5 := Tryz.zeroValue5
  infoByte := by kernel_rfl
  cellsByte := by kernel_rfl
  sizeByte := by kernel_rfl
  neB5 := by decide }
open Go.RowKit in
theorem Tryz.Builder_String_any_k (B b : Nat) (l : List UInt8) (w : World) (h : Lib.IsBuilderF 86 5 B b (Lib.byteCells l) w) (hBw : B ≤ w.heap.size) :
    Calls Tryz.prog 55 #[.pointer (some ⟨b, 0, none⟩)] w fun e w' => e = .returned (.string ⟨l.toArray⟩) ∧ (Lib.IsBuilderF 86 5 B b (Lib.byteCells l) w' ∧ Below B w w' ∧ Lib.OthersKept 5 (some b) w w') := Any.Builder_String_any_k Tryz.lays169 Tryz.Builder_Extra_169 B b l w h hBw
def Tryz.laysM173_ren : Go.Shelf.Ren := ⟨fun | 173 => 52 | 246 => 119 | 283 => 150 | 284 => 151 | 285 => 152 | 286 => 153 | 129 => 180 | 317 => 179 | 318 => 181 | 319 => 182 | 320 => 183 | 337 => 216 | 338 => 217 | n => n, fun | 2 => 2 | 3 => 3 | 9 => 9 | 4 => 4 | 171 => 231 | 0 => 0 | 53 => 105 | 37 => 74 | 5 => 5 | 173 => 234 | 212 => 277 | 51 => 278 | 20 => 20 | 213 => 279 | 46 => 280 | 232 => 365 | 233 => 366 | n => n, fun | 17 => 0 | 18 => 2 | 19 => 3 | n => n⟩
theorem Tryz.laysM173 : Go.Proofs.LaysM.n173 Tryz.prog Tryz.laysM173_ren := {
  mixed := by kernel_rfl
  f129 := Tryz.func180.trans (congrArg some (by kernel_rfl))
  f173 := Tryz.func52.trans (congrArg some (by kernel_rfl))
  f246 := Tryz.func119.trans (congrArg some (by kernel_rfl))
  f283 := Tryz.func150.trans (congrArg some (by kernel_rfl))
  f284 := Tryz.func151.trans (congrArg some (by kernel_rfl))
  f285 := Tryz.func152.trans (congrArg some (by kernel_rfl))
  f286 := Tryz.func153.trans (congrArg some (by kernel_rfl))
  f317 := Tryz.func179.trans (congrArg some (by kernel_rfl))
  f318 := Tryz.func181.trans (congrArg some (by kernel_rfl))
  f319 := Tryz.func182.trans (congrArg some (by kernel_rfl))
  f320 := Tryz.func183.trans (congrArg some (by kernel_rfl))
  f337 := Tryz.func216.trans (congrArg some (by kernel_rfl))
  f338 := Tryz.func217.trans (congrArg some (by kernel_rfl))
  t0 := Tryz.underlying0
  a0 := Tryz.isAgg0
  z0 := Tryz.sizeOf0
  v0 := Tryz.zeroValue0
  t2 := Tryz.underlying2
  a2 := Tryz.isAgg2
  z2 := Tryz.sizeOf2
  v2 := Tryz.zeroValue2
  t3 := Tryz.underlying3
  a3 := Tryz.isAgg3
  z3 := Tryz.sizeOf3
  v3 := Tryz.zeroValue3
  t4 := Tryz.underlying4
  a4 := Tryz.isAgg4
  z4 := Tryz.sizeOf4
  v4 := Tryz.zeroValue4
  t5 := Tryz.underlying5
  a5 := Tryz.isAgg5
  z5 := Tryz.sizeOf5
  v5 := Tryz.zeroValue5
  t9 := Tryz.underlying9
  a9 := Tryz.isAgg9
  z9 := Tryz.sizeOf9
  v9 := Tryz.zeroValue9
  t20 := Tryz.underlying20
  a20 := Tryz.isAgg20
  z20 := Tryz.sizeOf20
  v20 := Tryz.zeroValue20
  t37 := Tryz.underlying74
  a37 := Tryz.isAgg74
  z37 := Tryz.sizeOf74
  v37 := Tryz.zeroValue74
  t46 := Tryz.underlying280
  a46 := Tryz.isAgg280
  z46 := Tryz.sizeOf280
  v46 := Tryz.zeroValue280
  t51 := Tryz.underlying278
  a51 := Tryz.isAgg278
  z51 := Tryz.sizeOf278
  v51 := Tryz.zeroValue278
  t53 := Tryz.underlying105
  a53 := Tryz.isAgg105
  z53 := Tryz.sizeOf105
  v53 := Tryz.zeroValue105
  t171 := Tryz.underlying231
  a171 := Tryz.isAgg231
  z171 := Tryz.sizeOf231
  v171 := Tryz.zeroValue231
  t173 := Tryz.underlying234
  a173 := Tryz.isAgg234
  z173 := Tryz.sizeOf234
  v173 := Tryz.zeroValue234
  t212 := Tryz.underlying277
  a212 := Tryz.isAgg277
  z212 := Tryz.sizeOf277
  v212 := Tryz.zeroValue277
  t213 := Tryz.underlying279
  a213 := Tryz.isAgg279
  z213 := Tryz.sizeOf279
  t232 := Tryz.underlying365
  a232 := Tryz.isAgg365
  z232 := Tryz.sizeOf365
  v232 := Tryz.zeroValue365
  t233 := Tryz.underlying366
  a233 := Tryz.isAgg366
  z233 := Tryz.sizeOf366
  v233 := Tryz.zeroValue366
  g17 := by kernel_rfl
  g18 := by kernel_rfl
  g19 := by kernel_rfl
  i0 := by kernel_rfl
  i2 := by kernel_rfl
  i3 := by kernel_rfl
  i4 := by kernel_rfl
  i5 := by kernel_rfl
  i9 := by kernel_rfl
  i20 := by kernel_rfl
  i37 := by kernel_rfl
  i46 := by kernel_rfl
  i51 := by kernel_rfl
  i53 := by kernel_rfl
  i171 := by kernel_rfl
  i173 := by kernel_rfl
  i212 := by kernel_rfl
  i232 := by kernel_rfl
  i233 := by kernel_rfl
  m17 := by kernel_rfl
  m18 := by kernel_rfl
  m19 := by kernel_rfl }
open Go.RowKit Go.Sort Go.Lib in
theorem Tryz.strconv_FormatInt_10 (n : Int) (h0 : -9223372036854775808 ≤ n) (h1 : n ≤ 9223372036854775807) (w : World) (htab : Lib.TabIs Tryz.prog w "internal/strconv.uint64pow10" .u64 Lib.pow10Tab) :
    Calls Tryz.prog 52 #[.int .i64 n, .int .i64 10] w fun e w' => e = .returned (.string ⟨(Lib.itoa n).toArray⟩) ∧ ∃ k os, w' = grow (w.drewN k) os := Any.strconv_FormatInt_10 Tryz.laysM173 n h0 h1 w htab
def Tryz.laysW_ren : Go.Shelf.Ren := ⟨fun | 166 => 51 | 167 => 53 | 240 => 118 | 276 => 149 | n => n, fun | 31 => 227 | 9 => 9 | 3 => 3 | 4 => 4 | 0 => 0 | 20 => 20 | 72 => 86 | 76 => 89 | 70 => 84 | 37 => 74 | 75 => 88 | 127 => 167 | 164 => 228 | 5 => 5 | 80 => 95 | n => n, fun | n => n⟩
theorem Tryz.laysW6 : Go.Proofs.Lays.n166 Tryz.prog Tryz.laysW_ren := {
  mixed := by kernel_rfl
  f166 := Tryz.func51.trans (congrArg some (by kernel_rfl))
  f240 := Tryz.func118.trans (congrArg some (by kernel_rfl))
  f276 := Tryz.func149.trans (congrArg some (by kernel_rfl))
  t0 := Tryz.underlying0
  a0 := Tryz.isAgg0
  z0 := Tryz.sizeOf0
  v0 := Tryz.zeroValue0
  t3 := Tryz.underlying3
  a3 := Tryz.isAgg3
  z3 := Tryz.sizeOf3
  v3 := Tryz.zeroValue3
  t4 := Tryz.underlying4
  a4 := Tryz.isAgg4
  z4 := Tryz.sizeOf4
  v4 := Tryz.zeroValue4
  t9 := Tryz.underlying9
  a9 := Tryz.isAgg9
  z9 := Tryz.sizeOf9
  v9 := Tryz.zeroValue9
  t20 := Tryz.underlying20
  a20 := Tryz.isAgg20
  z20 := Tryz.sizeOf20
  v20 := Tryz.zeroValue20
  t37 := Tryz.underlying74
  a37 := Tryz.isAgg74
  z37 := Tryz.sizeOf74
  v37 := Tryz.zeroValue74
  t70 := Tryz.underlying84
  a70 := Tryz.isAgg84
  z70 := Tryz.sizeOf84
  v70 := Tryz.zeroValue84
  t72 := Tryz.underlying86
  a72 := Tryz.isAgg86
  z72 := Tryz.sizeOf86
  v72 := Tryz.zeroValue86
  t75 := Tryz.underlying88
  a75 := Tryz.isAgg88
  z75 := Tryz.sizeOf88
  v75 := Tryz.zeroValue88
  t164 := Tryz.underlying228
  a164 := Tryz.isAgg228
  z164 := Tryz.sizeOf228
  v164 := Tryz.zeroValue228
}
theorem Tryz.laysW7 : Go.Proofs.Lays.n167 Tryz.prog Tryz.laysW_ren := {
  mixed := by kernel_rfl
  f167 := Tryz.func53.trans (congrArg some (by kernel_rfl))
  f240 := Tryz.func118.trans (congrArg some (by kernel_rfl))
  f276 := Tryz.func149.trans (congrArg some (by kernel_rfl))
  t0 := Tryz.underlying0
  a0 := Tryz.isAgg0
  z0 := Tryz.sizeOf0
  v0 := Tryz.zeroValue0
  t4 := Tryz.underlying4
  a4 := Tryz.isAgg4
  z4 := Tryz.sizeOf4
  v4 := Tryz.zeroValue4
  t5 := Tryz.underlying5
  a5 := Tryz.isAgg5
  z5 := Tryz.sizeOf5
  v5 := Tryz.zeroValue5
  t9 := Tryz.underlying9
  a9 := Tryz.isAgg9
  z9 := Tryz.sizeOf9
  v9 := Tryz.zeroValue9
  t20 := Tryz.underlying20
  a20 := Tryz.isAgg20
  z20 := Tryz.sizeOf20
  v20 := Tryz.zeroValue20
  t37 := Tryz.underlying74
  a37 := Tryz.isAgg74
  z37 := Tryz.sizeOf74
  v37 := Tryz.zeroValue74
  t70 := Tryz.underlying84
  a70 := Tryz.isAgg84
  z70 := Tryz.sizeOf84
  v70 := Tryz.zeroValue84
  t72 := Tryz.underlying86
  a72 := Tryz.isAgg86
  z72 := Tryz.sizeOf86
  v72 := Tryz.zeroValue86
  t75 := Tryz.underlying88
  a75 := Tryz.isAgg88
  z75 := Tryz.sizeOf88
  v75 := Tryz.zeroValue88
  t164 := Tryz.underlying228
  a164 := Tryz.isAgg228
  z164 := Tryz.sizeOf228
  v164 := Tryz.zeroValue228
}
theorem Tryz.Builder_Extra_W : Builder.Extra Tryz.prog Tryz.laysW_ren := {
  sizeBuilder := by kernel_rfl
  liesBuilder := by kernel_rfl
  t5 := Tryz.underlying5
  a5 := Tryz.isAgg5
  z5 := Tryz.sizeOf5
  v5 := Tryz.zeroValue5
  infoByte := by kernel_rfl
  cellsByte := by kernel_rfl
  sizeByte := by kernel_rfl
  neB5 := by decide }
open Go.RowKit in
theorem Tryz.Builder_WriteByte_k (B b : Nat) (bs : List Value) (c : Int) (w : World) (h : Lib.IsBuilderF 86 5 B b bs w) (hlen : bs.length + 1 ≤ 140737488355328) (hBw : B ≤ w.heap.size) :
    Calls Tryz.prog 53 #[.pointer (some ⟨b, 0, none⟩), .int .u8 c] w fun e w' => e = .returned .nilIface ∧ (Lib.BuilderAtF 86 5 B b (.pointer (some ⟨b, 0, none⟩)) (bs ++ [.int .u8 c]) w' ∧ Below B w w' ∧ Lib.OthersKept 5 (some b) w w') := Any.Builder_WriteByte_k Tryz.laysW7 Tryz.Builder_Extra_W B b bs c w h hlen hBw
open Go.RowKit in
theorem Tryz.Builder_WriteString_k (B b : Nat) (bs : List Value) (s : ByteArray) (w : World) (h : Lib.IsBuilderF 86 5 B b bs w) (hlen : bs.length + s.size ≤ 140737488355328) (hBw : B ≤ w.heap.size) :
    Calls Tryz.prog 51 #[.pointer (some ⟨b, 0, none⟩), .string s] w fun e w' => e = .returned (.tuple #[.int .i64 s.size, .nilIface]) ∧ (Lib.BuilderAtF 86 5 B b (.pointer (some ⟨b, 0, none⟩)) (bs ++ Lib.strCells s) w' ∧ Below B w w' ∧ Lib.OthersKept 5 (some b) w w') := Any.Builder_WriteString_k Tryz.laysW6 Tryz.Builder_Extra_W B b bs s w h hlen hBw
end Go.Proofs

/- A row of numbers put behind a text (three's Text$1). By an AI agent. -/
namespace Go.Proofs.YtgdibfnpkcdiiaaGreatDoor
open Go.RowKit

abbrev TabW (w : World) : Prop := Lib.TabIs Tryz.prog w "internal/strconv.uint64pow10" .u64 Lib.pow10Tab
theorem gPow : Tryz.prog.globalNamed "internal/strconv.uint64pow10" = some 0 := by kernel_rfl
theorem tab_keep {w w' : World} {B : Nat} (h : TabW w) (hb : Below B w w') (hB : 0 < B) : TabW w' := by
  unfold TabW Lib.TabIs at *
  rw [← h]
  unfold World.var?
  rw [gPow]
  simp [hb.block 0 hB]
theorem bld_below {w w' : World} {B b : Nat} {bs : List Value} (h : Lib.IsBuilderF 86 5 B b bs w) (hb : Below w.heap.size w w') : Lib.IsBuilderF 86 5 B b bs w' := by
  have key : ∀ p, Lib.BuilderAtF 86 5 B b p bs w → Lib.BuilderAtF 86 5 B b p bs w' := by
    intro p h
    have hlt := h.lt
    obtain ⟨hB, v, hbk, hown, hne⟩ := h
    refine ⟨hB, v, (hb.block b hlt).trans hbk, hown.kept (row := none) ⟨hb.os, hb.tape, hb.output, hb.size, fun j hj _ => hb.block j hj⟩ ?_, hne⟩
    cases hv : v.ownBlock <;> simp
  exact h.imp (key _) (key _)
theorem own_others {w w' : World} {base b n : Nat} {v : Value} {xs : List Value} (h : w.ownsRow base 2 1 v n xs) (ho : Lib.OthersKept 5 (some b) w w') (hb : b < base) : w'.ownsRow base 2 1 v n xs := by
  refine ⟨h.1, h.2.imp id ?_⟩
  rintro ⟨g, cap, cur, hv, hg, hk, r⟩
  exact ⟨g, cap, cur, hv, hg, ho g _ hk (by intro e; injection e; omega) (fun c fz e => by injection e with _ e2; cases e2), r⟩
theorem below_grow0 (w : World) (k : Nat) (os : Array Obj) : Below w.heap.size w (Go.Sort.grow (w.drewN k) os) :=
  ⟨rfl, rfl, rfl, by show w.heap.size ≤ (w.heap ++ os).size; rw [Array.size_append]; omega, fun j hj => by show (w.heap ++ os)[j]? = _; exact Array.getElem?_append_left hj⟩
theorem fmt_any (n : Int) (h : I64 n) (w : World) (ht : TabW w) :
    Calls Tryz.prog 52 #[.int .i64 n, .int .i64 10] w fun e w' => e = .returned (.string ⟨(Lib.itoa n).toArray⟩) ∧ Below w.heap.size w w' :=
  (Tryz.strconv_FormatInt_10 n h.1 h.2 w ht).mono fun e w' ⟨he, k, os, hw⟩ => ⟨he, by rw [hw]; exact below_grow0 w k os⟩
theorem others_below {w w' : World} {b : Nat} (hb : Below w.heap.size w w') : Lib.OthersKept 5 (some b) w w' := fun k o h _ _ => by
  have hlt : k < w.heap.size := (Array.getElem?_eq_some_iff.1 h).1
  exact (hb.block k hlt).trans h

set_option maxRecDepth 100000 in
set_option maxHeartbeats 8000000 in
theorem put_any (B b base : Nat) (L : List UInt8) (v : Value) (ks : List Int) (w : World) (hB : Lib.IsBuilderF 86 5 B b (Lib.byteCells L) w) (own : w.ownsRow base 2 1 v ks.length (intC ks)) (hb : b < base) (hB0 : 0 < B) (hBw : B ≤ w.heap.size) (hr : ∀ k ∈ ks, I64 k) (hn : ks.length ≤ 1000000) (hlen : L.length ≤ 1000000000) (tab : TabW w) :
    Calls Tryz.prog 50 #[v, .pointer (some ⟨b, 0, none⟩)] w fun e w' => e = .returned (.tuple #[]) ∧ Lib.IsBuilderF 86 5 B b (Lib.byteCells (L ++ (numsT ks ++ [10]))) w' ∧ Below B w w' ∧ Lib.OthersKept 5 (some b) w w' := by
  obtain ⟨A, c, rfl⟩ := own_form own
  obtain ⟨n, hnn⟩ : ∃ n, n = ks.length := ⟨_, rfl⟩
  rw [← hnn] at own ⊢
  have HOWN := Lib.hid own; have HBLD := Lib.hid hB; have HR := Lib.hid hr; have HN := Lib.hid hn; have HLEN := Lib.hid hlen; have HTAB := Lib.hid tab; have HNN := Lib.hid hnn; have HBW := Lib.hid hBw
  clear own hB hr hn hlen tab hnn hBw
  go_enter Tryz.func50, Tryz.ntmps50
  go_wp2_with fail
  go_loopg [7] n (fun gk v wr => ∃ i : Nat, i ≤ n ∧ n - i ≤ gk ∧ v = .int .i64 i ∧ Hid (Lib.IsBuilderF 86 5 B b (Lib.byteCells (L ++ numsT (ks.take i))) wr ∧ Below B w wr ∧ Lib.OthersKept 5 (some b) w wr))
  case atStart => exact ⟨0, Nat.zero_le _, Nat.le_refl _, rfl, Lib.hid ⟨by simpa [numsT] using HBLD.out, Below.refl _ _, Lib.OthersKept.refl _ _ _⟩⟩
  case round =>
    obtain ⟨i, hi, hgk, rfl, HI⟩ := hrel
    by_cases hlt : i < n
    case neg =>
      have q : decide ((i : Int) < (n : Int)) = false := decide_eq_false (by omega)
      have hall : ks.take i = ks := List.take_of_length_le (by rw [← HNN.out]; omega)
      have hnum : (numsT ks).length ≤ 21000000 := by have := nums_len HR.out; have := HN.out; omega
      have hc := Tryz.Builder_WriteByte_k B b (Lib.byteCells (L ++ numsT ks)) 10 wr (by have := HI.out.1; rwa [hall] at this) (by rw [Lib.byteCells_length, List.length_append]; have := HLEN.out; omega) (Nat.le_trans HBW.out HI.out.2.1.size)
      have HC := Lib.hid hc
      clear hc hall hnum
      go_wp2_with fail
      refine HC.out.mono ?_
      rintro e w1 ⟨rfl, hb1, hbw, hok⟩
      have HF := Lib.hid (show Lib.IsBuilderF 86 5 B b (Lib.byteCells (L ++ (numsT ks ++ [10]))) w1 from Or.inr (by rw [← List.append_assoc, Lib.byteCells_append]; exact hb1))
      have HF2 := Lib.hid (HI.out.2.1.trans hbw); have HF3 := Lib.hid (HI.out.2.2.trans hok)
      clear hb1 hbw hok
      go_wp2_with fail
      go_end0
      exact ⟨rfl, HF.out, HF2.out, HF3.out⟩
    case pos =>
      have q : decide ((i : Int) < (n : Int)) = true := decide_eq_true (by omega)
      obtain ⟨y, hy⟩ : ∃ y, ks[i]? = some y := ⟨_, List.getElem?_eq_getElem (by rw [← HNN.out]; exact hlt)⟩
      have hown := own_others HOWN.out HI.out.2.2 hb
      obtain ⟨g, cap, hv, _, hgl⟩ := hown.form (by omega)
      injection hv with hA _ hcc
      subst hA
      have hat : wr.cell? ⟨g, 0 + i, none⟩ = some (.int .i64 y) := by
        have := hown.cellAt i (by omega)
        rw [Nat.zero_add, this]
        simp [intC, hy]
      have lb := cell_lt' hat
      have hii : (i : Int) < (n : Int) := by omega
      have hiy : I64 y := HR.out y (List.mem_of_getElem? hy)
      have hcf := fun W (hW : Below wr.heap.size wr W) => fmt_any y hiy W (tab_keep (tab_keep HTAB.out HI.out.2.1 hB0) hW (by have := HI.out.2.1.size; have := HBW.out; omega))
      have HCF := Lib.hid hcf; have HIY := Lib.hid hiy; have HY := Lib.hid hy
      clear hown hcc hgl hiy hcf hy
      rw [Nat.zero_add] at hat
      go_wp2_with fail
      refine (HCF.out wr (Below.refl _ _)).mono ?_
      rintro e w1 ⟨rfl, hb1⟩
      have hnum : (numsT (ks.take i)).length ≤ 21000000 := by have := nums_len (l := ks.take i) (fun k hk => HR.out k (List.mem_of_mem_take hk)); have h3 := HN.out; have h2 : (ks.take i).length ≤ ks.length := (by simp; omega); omega
      have hil := itoa_len HIY.out
      have e1 : (⟨#[32]⟩ : ByteArray) ++ ⟨(Lib.itoa y).toArray⟩ = ⟨(32 :: Lib.itoa y).toArray⟩ := by ext1; simp
      have hsz : (⟨(32 :: Lib.itoa y).toArray⟩ : ByteArray).size ≤ 21 := by simp [ByteArray.size]; omega
      have hcw := Tryz.Builder_WriteString_k B b (Lib.byteCells (L ++ numsT (ks.take i))) (⟨#[32]⟩ ++ ⟨(Lib.itoa y).toArray⟩) w1 (bld_below HI.out.1 hb1) (by rw [e1, Lib.byteCells_length, List.length_append]; have := HLEN.out; omega) (Nat.le_trans (Nat.le_trans HBW.out HI.out.2.1.size) hb1.size)
      have hsz2 : ¬ 9223372036854775807 < 1 + (Lib.itoa y).length := by omega
      have HCW := Lib.hid hcw; have HE1 := Lib.hid e1; have HB1 := Lib.hid hb1
      clear hcw hsz hil hnum e1 hb1
      go_wp2_with fail
      refine HCW.out.mono ?_
      rintro e w2 ⟨rfl, hb2, hbw, hok⟩
      have HF := Lib.hid (show Lib.IsBuilderF 86 5 B b (Lib.byteCells (L ++ numsT (ks.take (i + 1)))) w2 from Or.inr (by
        rw [List.take_add_one, HY.out]
        rw [HE1.out, show Lib.strCells (⟨(32 :: Lib.itoa y).toArray⟩ : ByteArray) = Lib.byteCells (32 :: Lib.itoa y) from rfl] at hb2
        simp only [numsT, Option.toList_some, List.flatMap_append, List.flatMap_cons, List.flatMap_nil, List.append_nil] at hb2 ⊢
        rw [← List.append_assoc, Lib.byteCells_append]
        exact hb2))
      have HF2 := Lib.hid (HI.out.2.1.trans ((HB1.out.mono (Nat.le_trans HBW.out HI.out.2.1.size)).trans hbw)); have HF3 := Lib.hid (HI.out.2.2.trans ((others_below HB1.out).trans hok))
      have hnb : n ≤ 1000000 := by rw [HNN.out]; exact HN.out
      clear hb2 hbw hok
      go_wp2_with fail
      cases gk with
      | zero => omega
      | succ gk =>
        go_roundg gk
        case measure => omega
        case rel => exact ⟨i + 1, by omega, by omega, by simp, Lib.hid ⟨HF.out, HF2.out, HF3.out⟩⟩
end Go.Proofs.YtgdibfnpkcdiiaaGreatDoor

/- A program's text (three's Text). By an AI agent. -/
namespace Go.Proofs.YtgdibfnpkcdiiaaGreatDoor
open Go.RowKit

theorem enter50 (a p : Value) (W : World) : (callFunc 50 #[a, p]).run Tryz.prog W = .ok (.enter 50 #[a, p]) W := by kernel_rfl
theorem flat_take {α : Type} (f : α → List UInt8) (l : List α) (i : Nat) : ((l.take i).flatMap f).length ≤ (l.flatMap f).length := by
  have : l.flatMap f = (l.take i).flatMap f ++ (l.drop i).flatMap f := by rw [← List.flatMap_append, List.take_append_drop]
  rw [this, List.length_append]; omega
theorem flat_snoc {α : Type} (f : α → List UInt8) {l : List α} {i : Nat} {x : α} (h : l[i]? = some x) : (l.take (i + 1)).flatMap f = (l.take i).flatMap f ++ f x := by
  rw [List.take_add_one, h]
  simp
theorem blk_others {w w' : World} {g b : Nat} {t : TypeId} {cs : Array Value} (h : Blk w g t cs) (ho : Lib.OthersKept 5 (some b) w w') (hg : g ≠ b) (ht : t ≠ 5) : Blk w' g t cs :=
  ho g _ h (by intro e; injection e with e; exact hg e) (fun c fz e => by injection e with _ e2; exact ht e2)

set_option maxRecDepth 100000 in
set_option maxHeartbeats 8000000 in
theorem text_any (g : PrG) (w : World) (hg : PrR w g) (tg : PrT g.p) (hlen : (textW g.p).length ≤ 1000000) (tab : TabW w) (h0 : 0 < w.heap.size) :
    Calls Tryz.prog 16 #[prV g] w fun e w' => e = .returned (.string ⟨(textW g.p).toArray⟩) ∧ Below w.heap.size w w' := by
  obtain ⟨p, av, fv, l⟩ := g
  dsimp only at tg hlen
  have hge := hg.eq
  obtain ⟨⟨A, ca, hav, _, _⟩, ⟨F, cf, hfv, _, hfr⟩, _⟩ := hg
  dsimp only at hav hfv hfr hge
  subst hav; subst hfv
  obtain ⟨nl, hnl⟩ : ∃ n, n = l.length := ⟨_, rfl⟩
  have hfl : p.fns.length = nl := by rw [← hge, List.length_map, hnl]
  have hnlb : nl ≤ 1000000 := by rw [← hfl]; exact tg.fns
  unfold prV
  dsimp only
  rw [← hnl]
  have HGE := Lib.hid hge; have HFR := Lib.hid hfr; have HNL := Lib.hid hnl; have HFL := Lib.hid hfl; have TG := Lib.hid tg; have HLEN := Lib.hid hlen; have HTAB := Lib.hid tab; have HNLB := Lib.hid hnlb
  clear hge hfr hnl hfl tg hlen tab hnlb
  have e50 := fun a W => enter50 a (.pointer (some ⟨w.heap.size + 1, 0, none⟩)) W
  go_enter Tryz.func16, Tryz.ntmps16
  go_wp2_with fail
  have hb1 : Below w.heap.size w ((w.alloc (.cells #[.slice A p.arrays.length ca, .slice F nl cf, .int .i64 p.main] 25)).alloc (.cells #[.pointer none, .slice none 0 0] 86)) := ((Below.refl _ _).alloc (Nat.le_refl _) _).alloc (by simp) _
  have hbk := Blk.new (w.alloc (.cells #[.slice A p.arrays.length ca, .slice F nl cf, .int .i64 p.main] 25)) 86 #[.pointer none, .slice none 0 0]
  have hsz : ((w.alloc (.cells #[.slice A p.arrays.length ca, .slice F nl cf, .int .i64 p.main] 25)).alloc (.cells #[.pointer none, .slice none 0 0] 86)).heap.size = w.heap.size + 2 := by simp
  obtain ⟨W1, hW1⟩ : ∃ W1, W1 = (w.alloc (.cells #[.slice A p.arrays.length ca, .slice F nl cf, .int .i64 p.main] 25)).alloc (.cells #[.pointer none, .slice none 0 0] 86) := ⟨_, rfl⟩
  simp only [World.size_alloc] at hbk
  rw [← hW1] at hb1 hbk hsz ⊢
  clear hW1
  have HB1 := Lib.hid hb1; have HSZ := Lib.hid hsz
  have HBL := Lib.hid (show Lib.IsBuilderF 86 5 (w.heap.size + 1) (w.heap.size + 1) (Lib.byteCells []) W1 from Or.inl ⟨Nat.le_refl _, _, hbk, World.ownsRowF_nil _ _ _ _, by simp [Value.ownBlock]⟩)
  clear hb1 hbk hsz
  go_loopg [13] nl (fun gk v wr => ∃ i : Nat, i ≤ nl ∧ nl - i ≤ gk ∧ v = .int .i64 i ∧ Hid (Lib.IsBuilderF 86 5 (w.heap.size + 1) (w.heap.size + 1) (Lib.byteCells ((p.fns.take i).flatMap fnT)) wr ∧ Below (w.heap.size + 1) W1 wr))
  case atStart => exact ⟨0, Nat.zero_le _, Nat.le_refl _, rfl, Lib.hid ⟨by simpa using HBL.out, Below.refl _ _⟩⟩
  case round =>
    obtain ⟨i, hi, hgk, rfl, HI⟩ := hrel
    by_cases hlt : i < nl
    case neg =>
      have q : decide ((i : Int) < (nl : Int)) = false := decide_eq_false (by omega)
      have hall : p.fns.take i = p.fns := List.take_of_length_le (by rw [HFL.out]; omega)
      have hbl := HI.out.1
      rw [hall] at hbl
      have HC := Lib.hid (Tryz.Builder_String_any_k _ _ _ wr hbl (by have := HI.out.2.size; have := HSZ.out; omega))
      clear hall hbl
      go_wp2_with fail
      refine HC.out.mono ?_
      rintro e w1 ⟨rfl, _, hbw, _⟩
      have HF := Lib.hid (HB1.out.trans ((HI.out.2.trans hbw).mono (by omega)))
      clear hbw
      go_wp2_with fail
      go_ret
      exact ⟨rfl, HF.out⟩
    case pos =>
      have q : decide ((i : Int) < (nl : Int)) = true := decide_eq_true (by omega)
      obtain ⟨x, hx⟩ : ∃ x, l[i]? = some x := ⟨_, List.getElem?_eq_getElem (by rw [← HNL.out]; exact hlt)⟩
      have hpx : p.fns[i]? = some x.fn := by rw [← HGE.out, List.getElem?_map, hx]; rfl
      have hwr := HB1.out.trans (HI.out.2.mono (by omega))
      obtain ⟨fb, fo, hFe, hxf⟩ : ∃ b o, F = some ⟨b, o, none⟩ ∧ fnAt w b (o + i * 4) x := by
        rcases HFR.out with e | ⟨b, o, e, k⟩
        · rw [e] at hx; simp at hx
        · exact ⟨b, o, e, k i x hx⟩
      subst hFe
      have hxe := hxf.eq
      have hxw := hxf.below hwr
      obtain ⟨x0, x1, x2, x3, _, _⟩ := hxw
      obtain ⟨C, cc, hcv, _, hci⟩ := hxf.code
      obtain ⟨nc, hnc⟩ : ∃ n, n = x.l.length := ⟨_, rfl⟩
      rw [hcv, ← hnc] at x3
      have lb := cell_lt' x0
      have hii : (i : Int) < (nl : Int) := by omega
      have tf := TG.out.fn _ (List.mem_of_getElem? hpx)
      have hpre : ((p.fns.take (i + 1)).flatMap fnT).length ≤ 1000000 := Nat.le_trans (flat_take fnT p.fns (i + 1)) HLEN.out
      rw [flat_snoc fnT hpx] at hpre
      have hnl2 : ((p.fns.take i).flatMap fnT).length + (x.fn.name.length + ((numsT [x.fn.params, x.fn.vars] ++ [10]).length + (x.fn.code.flatMap insT).length)) ≤ 1000000 := by
        rw [List.length_append] at hpre
        unfold fnT at hpre ⊢
        simp only [List.length_append] at hpre ⊢
        omega
      have HPX := Lib.hid hpx; have HXE := Lib.hid hxe; have HCI := Lib.hid hci; have HNC := Lib.hid hnc; have TF := Lib.hid tf; have HPRE := Lib.hid hpre; have HWR := Lib.hid hwr
      have hszr := HI.out.2.size
      rw [HSZ.out] at hszr
      have bk := Blk.new wr 67 #[.string ⟨x.fn.name.toArray⟩, .int .i64 x.fn.params, .int .i64 x.fn.vars, .slice C nc cc]
      have hbw : Below wr.heap.size wr (wr.alloc (.cells #[.string ⟨x.fn.name.toArray⟩, .int .i64 x.fn.params, .int .i64 x.fn.vars, .slice C nc cc] 67)) := (Below.refl _ _).alloc (Nat.le_refl _) _
      have hc := Tryz.Builder_WriteString_k _ _ _ ⟨x.fn.name.toArray⟩ _ (bld_below HI.out.1 hbw) (by rw [Lib.byteCells_length, show (⟨x.fn.name.toArray⟩ : ByteArray).size = x.fn.name.length from by simp [ByteArray.size]]; omega) (by have := hwr.size; simp; omega)
      have HC := Lib.hid hc; have BK := Lib.hid bk; have HBW := Lib.hid hbw; have HSR := Lib.hid hszr; have HL2 := Lib.hid hnl2
      clear hx hpx hxe hxf hci hnc tf hpre hwr hszr bk hbw hc hcv hnl2
      go_wp2_with fail
      refine HC.out.mono ?_
      rintro e w1 ⟨rfl, hb1, hbw, hok⟩
      have HBK := Lib.hid (blk_others (BK.out) hok (by have := HSR.out; omega) (by decide))
      have HB2 := Lib.hid (show Lib.IsBuilderF 86 5 (w.heap.size + 1) (w.heap.size + 1) (Lib.byteCells ((p.fns.take i).flatMap fnT ++ x.fn.name)) w1 from Or.inr (by rw [Lib.byteCells_append]; exact hb1))
      have HW1 := Lib.hid (HI.out.2.trans ((HBW.out.mono (by have := HSR.out; omega)).trans hbw))
      have hs1 : wr.heap.size + 1 ≤ w1.heap.size := by have h := hbw.size; simp only [World.size_alloc] at h; omega
      have HS1 := Lib.hid hs1
      have hld0 : ∀ k v, #[.string ⟨x.fn.name.toArray⟩, .int .i64 x.fn.params, .int .i64 x.fn.vars, .slice C nc cc][k]? = some v → w1.cell? ⟨wr.heap.size, k, none⟩ = some v := fun k v h => (HBK.out.cell k).trans h
      have l1 := hld0 1 _ rfl
      have l2 := hld0 2 _ rfl
      clear hb1 hbw hok hs1 hld0
      have hown := own_new w1 2 #[.int .i64 x.fn.params, .int .i64 x.fn.vars] 1 2 w1.heap.size rfl (Nat.le_refl _) (by decide)
      have hbw2 : Below w1.heap.size w1 (w1.alloc (.cells #[.int .i64 x.fn.params, .int .i64 x.fn.vars] 2)) := (Below.refl _ _).alloc (Nat.le_refl _) _
      have hp := put_any (w.heap.size + 1) (w.heap.size + 1) w1.heap.size ((p.fns.take i).flatMap fnT ++ x.fn.name) _ [x.fn.params, x.fn.vars] _ (bld_below HB2.out hbw2) hown (by have := HSR.out; have := HS1.out; omega) (by omega) (by have := HSR.out; have := HS1.out; simp; omega) (by intro k hk; simp only [List.mem_cons, List.not_mem_nil, or_false] at hk; rcases hk with rfl | rfl; exact TF.out.ok.params; exact TF.out.ok.vars) (by simp) (by have := HL2.out; rw [List.length_append]; omega) (tab_keep (tab_keep (tab_keep HTAB.out HB1.out h0) (HW1.out.mono (by omega)) h0) (hbw2.mono (by have := HSR.out; have := HS1.out; omega)) h0)
      have HP := Lib.hid hp; have HBW2 := Lib.hid hbw2
      clear hp hown hbw2
      go_wp2_with fail
      refine HP.out.mono ?_
      rintro e w2 ⟨rfl, hb3, hbw3, hok3⟩
      obtain ⟨L2, hL2⟩ : ∃ L2, L2 = (p.fns.take i).flatMap fnT ++ x.fn.name ++ (numsT [x.fn.params, x.fn.vars] ++ [10]) := ⟨_, rfl⟩
      rw [← hL2] at hb3
      have hll : L2.length + (x.fn.code.flatMap insT).length ≤ 1000000 := by have := HL2.out; rw [hL2, List.length_append, List.length_append]; omega
      have htake : L2 ++ x.fn.code.flatMap insT = (p.fns.take (i + 1)).flatMap fnT := by rw [flat_snoc fnT HPX.out, hL2]; unfold fnT; simp only [List.append_assoc]
      have HLL := Lib.hid hll; have HTK := Lib.hid htake
      have HB3 := Lib.hid hb3
      have hbk2 := blk_others (HBK.out.alloc (.cells #[.int .i64 x.fn.params, .int .i64 x.fn.vars] 2)) hok3 (by have := HSR.out; omega) (by decide)
      have HW2 := Lib.hid (HW1.out.trans ((HBW2.out.mono (by have := HSR.out; have := HS1.out; omega)).trans hbw3))
      have l3 : w2.cell? ⟨wr.heap.size, 3, none⟩ = some (.slice C nc cc) := hbk2.cell 3
      clear hL2 hll htake hb3 hbw3 hok3 hbk2 l1 l2
      obtain ⟨ko, rfl⟩ : ∃ ko, gk = ko + 1 := ⟨gk - 1, by omega⟩
      have hnc : nc ≤ 1000000 := by rw [HNC.out, ← List.length_map (f := (·.1)), HXE.out]; exact TF.out.len
      go_wp2_with fail
      go_loopg [30] nc (fun gk v w3 => ∃ j : Nat, j ≤ nc ∧ nc - j ≤ gk ∧ v = .int .i64 j ∧ Hid (Lib.IsBuilderF 86 5 (w.heap.size + 1) (w.heap.size + 1) (Lib.byteCells (L2 ++ (x.fn.code.take j).flatMap insT)) w3 ∧ Below (w.heap.size + 1) W1 w3))
      case atStart => exact ⟨0, Nat.zero_le _, Nat.le_refl _, rfl, Lib.hid ⟨by simpa using HB3.out, HW2.out⟩⟩
      case round =>
        obtain ⟨j, hj, hgk2, rfl, HJ⟩ := hrel
        by_cases hlt2 : j < nc
        case neg =>
          have q2 : decide ((j : Int) < (nc : Int)) = false := decide_eq_false (by omega)
          have hall : x.fn.code.take j = x.fn.code := List.take_of_length_le (by rw [← HXE.out, List.length_map, ← HNC.out]; omega)
          have hbl := HJ.out.1
          rw [hall, HTK.out] at hbl
          have HF := Lib.hid hbl
          clear hall hbl
          have hnlb := HNLB.out
          go_wp2_with fail
          go_roundg ko
          case measure => omega
          case rel => exact ⟨i + 1, by omega, by omega, by simp, Lib.hid ⟨HF.out, HJ.out.2⟩⟩
        case pos =>
          have q2 : decide ((j : Int) < (nc : Int)) = true := decide_eq_true (by omega)
          obtain ⟨y, hy⟩ : ∃ y, x.l[j]? = some y := ⟨_, List.getElem?_eq_getElem (by rw [← HNC.out]; exact hlt2)⟩
          have hpy : x.fn.code[j]? = some y.1 := by rw [← HXE.out, List.getElem?_map, hy]; rfl
          have hw3 : Below w.heap.size w wr := HB1.out.trans (HJ.out.2.mono (by omega))
          obtain ⟨cb, co, hCe, hyf⟩ : ∃ b o, C = some ⟨b, o, none⟩ ∧ insAt w b (o + j * 10) y := by
            rcases HCI.out with e | ⟨b, o, e, k⟩
            · rw [e] at hy; simp at hy
            · exact ⟨b, o, e, k j y hy⟩
          subst hCe
          obtain ⟨y0, y1, y2, y3, y4, y5, y6, y7, y8, y9, hya⟩ := hyf.below hw3
          have lb2 := cell_lt' y0
          have hjj : (j : Int) < (nc : Int) := by omega
          have hym := List.mem_of_getElem? hpy
          have hyo := TF.out.ok.code _ hym
          have hyl := TF.out.args _ hym
          have hq : L2 ++ (x.fn.code.take (j + 1)).flatMap insT = (L2 ++ (x.fn.code.take j).flatMap insT) ++ (numsT (numbersW y.1) ++ [10]) := by rw [flat_snoc insT hpy, List.append_assoc]; rfl
          have hpl : (L2 ++ (x.fn.code.take j).flatMap insT).length ≤ 1000000 := by have := flat_take insT x.fn.code j; have := HLL.out; rw [List.length_append]; omega
          have hs3 : w.heap.size + 2 ≤ wr.heap.size := by have := HJ.out.2.size; have := HSZ.out; omega
          have bk := Blk.new wr 71 #[.int .u8 y.1.op, .int .i64 y.1.v, .int .i64 y.1.a, .int .i64 y.1.b, .int .i64 y.1.n, .int .u8 y.1.bin, y.2, .int .i64 y.1.f, .int .i64 y.1.arr, .int .i64 y.1.to]
          have hbw4 : Below wr.heap.size wr (wr.alloc (.cells #[.int .u8 y.1.op, .int .i64 y.1.v, .int .i64 y.1.a, .int .i64 y.1.b, .int .i64 y.1.n, .int .u8 y.1.bin, y.2, .int .i64 y.1.f, .int .i64 y.1.arr, .int .i64 y.1.to] 71)) := (Below.refl _ _).alloc (Nat.le_refl _) _
          have hc := nums_own y _ (hya.below hbw4) (by omega) hyo.op hyo.bin
          unfold insV at hc
          obtain ⟨Y, cy, hyv, _, _⟩ := hya
          obtain ⟨ny, hny⟩ : ∃ n, n = y.1.args.length := ⟨_, rfl⟩
          rw [← hny] at hyv
          rw [hyv] at hc y6 bk hbw4
          have HC2 := Lib.hid hc; have HB4 := Lib.hid hbw4; have HS3 := Lib.hid hs3; have HQ := Lib.hid hq; have HPL := Lib.hid hpl; have HYO := Lib.hid hyo; have HYL := Lib.hid hyl; have HW3 := Lib.hid hw3
          clear hc hbw4 hs3 hq hpl hyo hyl hw3 hym hpy hy hyf bk hyv hny
          go_wp2_with fail
          refine HC2.out.mono ?_
          rintro e w4 ⟨v, rfl, hown, hb5⟩
          have hs4 := hb5.size
          have hs5 := HB4.out.size
          have hnumb : (numbersW y.1).length ≤ 1000000 := by have e : (numbersW y.1).length = 9 + y.1.args.length := by simp [numbersW]; omega
                                                             have := HYL.out; omega
          have hw5 := (HB4.out.trans (hb5.mono hs5))
          have hp := put_any (w.heap.size + 1) (w.heap.size + 1) _ (L2 ++ (x.fn.code.take j).flatMap insT) v (numbersW y.1) w4 (bld_below (bld_below HJ.out.1 HB4.out) hb5) hown (by have := HS3.out; omega) (by omega) (by have := HS3.out; omega) HYO.out.all hnumb (by have := HPL.out; omega) (tab_keep (tab_keep HTAB.out HW3.out h0) hw5 (by have := HS3.out; omega))
          have HP5 := Lib.hid hp; have HW5 := Lib.hid hw5
          clear hs4 hs5 hnumb hw5 hp hown hb5
          go_wp2_with fail
          refine HP5.out.mono ?_
          rintro e w5 ⟨rfl, hb6, hbw6, _⟩
          rw [← HQ.out] at hb6
          have HF := Lib.hid hb6; have HF2 := Lib.hid (HJ.out.2.trans ((HW5.out.mono (by have := HS3.out; omega)).trans hbw6))
          clear hb6 hbw6
          go_wp2_with fail
          cases gk with
          | zero => omega
          | succ gk =>
            go_roundg gk
            case measure => omega
            case rel => exact ⟨j + 1, by omega, by omega, by simp, Lib.hid ⟨HF.out, HF2.out⟩⟩
end Go.Proofs.YtgdibfnpkcdiiaaGreatDoor

/- The walk over the reference's digits: a number in decimal. By an AI agent. -/
namespace Go.Proofs.YtgdibfnpkcdiiaaGreatDoor
open Go.RowKit

theorem dec_low {v : Nat} (h : v < 10) : Lib.decDigits v = [UInt8.ofNat (48 + v)] := Lib.decDigits_one h
theorem dec_high {v : Nat} (h : ¬ v < 10) : Lib.decDigits v = Lib.decDigits (v / 10) ++ [UInt8.ofNat (48 + v % 10)] := by
  rw [Lib.decDigits, dif_neg h]
/-- What stands behind the digits still to come. -/
def DigR (U v : Nat) (sp : List UInt8) : Prop := if v = 0 ∧ sp ≠ [] then Lib.decDigits U = sp else Lib.decDigits U = Lib.decDigits v ++ sp
theorem digR_start (U : Nat) : DigR U U [] := by unfold DigR; rw [if_neg (by simp)]; simp
theorem digR_step {U v : Nat} {sp : List UInt8} (h : DigR U v sp) (hg : 0 < v ∨ sp = []) : DigR U (v / 10) (UInt8.ofNat (48 + v % 10) :: sp) := by
  unfold DigR at h ⊢
  rw [if_neg (by rintro ⟨h1, h2⟩; rcases hg with h3 | h3; omega; exact h2 h3)] at h
  by_cases hv : v < 10
  · rw [if_pos ⟨by omega, List.cons_ne_nil _ _⟩, h, dec_low hv, Nat.mod_eq_of_lt hv]; rfl
  · rw [if_neg (by rintro ⟨h1, _⟩; omega), h, dec_high hv, List.append_assoc]; rfl
theorem digR_end {U v : Nat} {sp : List UInt8} (h : DigR U v sp) (hv : v = 0) (hs : sp ≠ []) : sp = Lib.decDigits U := by
  unfold DigR at h; rw [if_pos ⟨hv, hs⟩] at h; exact h.symm
abbrev tenS : ByteArray := ⟨#[48, 49, 50, 51, 52, 53, 54, 55, 56, 57]⟩
theorem ten_at (k : Nat) (h : k < 10) : tenS.extract k (k + 1) = ⟨#[UInt8.ofNat (48 + k)]⟩ := by
  match k, h with
  | 0, _ => rfl
  | 1, _ => rfl
  | 2, _ => rfl
  | 3, _ => rfl
  | 4, _ => rfl
  | 5, _ => rfl
  | 6, _ => rfl
  | 7, _ => rfl
  | 8, _ => rfl
  | 9, _ => rfl

theorem len_low {U v n : Nat} (hU : U ≤ 9223372036854775807) (hv : 0 < v) (h : v * 10 ^ n ≤ U) : n ≤ 18 := by
  rcases Nat.lt_or_ge n 19 with h' | h'
  · omega
  · have h1 : 10 ^ 19 ≤ 10 ^ n := Nat.pow_le_pow_right (by omega) h'
    have h2 : 10 ^ n ≤ v * 10 ^ n := Nat.le_mul_of_pos_left _ hv
    have h3 : (10 : Nat) ^ 19 = 10000000000000000000 := by decide
    omega
theorem len_low' {U v n : Nat} (hU : U ≤ 9223372036854775808) (hv : 0 < v) (h : v * 10 ^ n ≤ U) : n ≤ 18 := by
  rcases Nat.lt_or_ge n 19 with h' | h'
  · omega
  · have h1 : 10 ^ 19 ≤ 10 ^ n := Nat.pow_le_pow_right (by omega) h'
    have h2 : 10 ^ n ≤ v * 10 ^ n := Nat.le_mul_of_pos_left _ hv
    have h3 : (10 : Nat) ^ 19 = 10000000000000000000 := by decide
    omega
theorem pow_step {U v n : Nat} (h : v * 10 ^ n ≤ U) : v / 10 * 10 ^ (n + 1) ≤ U := by
  have h1 : v / 10 * 10 ^ (n + 1) = v / 10 * 10 * 10 ^ n := by rw [Nat.pow_succ, Nat.mul_assoc, Nat.mul_comm (10 ^ n) 10]
  have h2 : v / 10 * 10 ≤ v := Nat.div_mul_le_self v 10
  have h3 := Nat.mul_le_mul_right (10 ^ n) h2
  omega

set_option maxHeartbeats 1000000 in
theorem digits_pos (U : Nat) (hU : U ≤ 9223372036854775807) (w : World) :
    Calls Tryz.prog 56 #[.int .i64 U] w fun e w' => e = .returned (.string ⟨(Lib.decDigits U).toArray⟩) ∧ w = w' := by
  have h0 : ¬ ((U : Int) < 0) := by omega
  go_enter Tryz.func56, Tryz.ntmps56
  go_wp2_with fail
  go_loop [0, 5] (fun n s => ∃ (v : Nat) (sp : List UInt8), v ≤ U ∧ n = .int .i64 v ∧ s = .string ⟨sp.toArray⟩ ∧ sp.length ≤ 30 ∧ v * 10 ^ sp.length ≤ U ∧ Hid (DigR U v sp)) (fun n s => (intOf n).toNat * 2 + (match s with | .string b => if b.size = 0 then 1 else 0 | _ => 0))
  case atStart => exact ⟨U, [], Nat.le_refl _, rfl, rfl, by simp, by simp, Lib.hid (digR_start U)⟩
  case round =>
    obtain ⟨v, sp, hv, rfl, rfl, hsl, hpw, HD⟩ := hrel
    have hd0 : (0 : Int) ≤ (v : Int) % 10 := by omega
    have hd1 : (v : Int) % 10 + 1 ≤ 10 := by omega
    have hd2 : (v : Int) % 10 ≤ (v : Int) % 10 + 1 := by omega
    have hd3 : ((v : Int) % 10).toNat = v % 10 := by omega
    have hvI : (0 : Int) ≤ (v : Int) := by omega
    have hvM : (v : Int) ≤ 9223372036854775807 := by omega
    have h10 := ten_at (v % 10) (Nat.mod_lt _ (by omega))
    have HPW := Lib.hid hpw
    clear hpw
    by_cases hv0 : 0 < v
    · have hv1 : (0 : Int) < (v : Int) := by omega
      have hl18 := len_low hU hv0 HPW.out
      go_wp2_with fail
      go_round
      case rel =>
        refine ⟨v / 10, UInt8.ofNat (48 + v % 10) :: sp, by omega, by go_num, ?_, by rw [List.length_cons]; omega, by rw [List.length_cons]; exact pow_step HPW.out, Lib.hid (digR_step HD.out (Or.inl hv0))⟩
        congr 1
        ext1
        simp
      case measure =>
        simp [intOf]
        (repeat split) <;> omega
    · obtain rfl : v = 0 := by omega
      cases hs : sp with
      | nil =>
        subst hs
        go_wp2_with fail
        have hst := digR_step HD.out (Or.inr rfl)
        go_round
        case rel => exact ⟨0, [48], by omega, rfl, by congr 1, by simp, by simp, Lib.hid hst⟩
        case measure => decide
      | cons x r =>
        have HE := Lib.hid (digR_end HD.out rfl (by rw [hs]; exact List.cons_ne_nil _ _))
        subst hs
        go_wp2_with fail
        go_ret
        exact ⟨by rw [← HE.out]; rfl, rfl⟩

def DigN (U v : Nat) (sp : List UInt8) : Prop := if v = 0 then Lib.decDigits U = sp else Lib.decDigits U = Lib.decDigits v ++ sp
theorem digN_step {U v : Nat} {sp : List UInt8} (h : DigN U v sp) (hg : 0 < v) : DigN U (v / 10) (UInt8.ofNat (48 + v % 10) :: sp) := by
  unfold DigN at h ⊢
  rw [if_neg (by omega)] at h
  by_cases hv : v < 10
  · rw [if_pos (by omega), h, dec_low hv, Nat.mod_eq_of_lt hv]; rfl
  · rw [if_neg (by omega), h, dec_high hv, List.append_assoc]; rfl

set_option maxHeartbeats 1000000 in
theorem digits_neg (U : Nat) (h1 : 0 < U) (hU : U ≤ 9223372036854775808) (w : World) :
    Calls Tryz.prog 56 #[.int .i64 (-(U : Int))] w fun e w' => e = .returned (.string ⟨(45 :: Lib.decDigits U).toArray⟩) ∧ w = w' := by
  have h0 : (-(U : Int) < 0) := by omega
  go_enter Tryz.func56, Tryz.ntmps56
  go_wp2_with fail
  go_loop [0, 3] (fun n s => ∃ (v : Nat) (sp : List UInt8), v ≤ U ∧ n = .int .i64 (-(v : Int)) ∧ s = .string ⟨sp.toArray⟩ ∧ sp.length ≤ 30 ∧ Hid (v * 10 ^ sp.length ≤ U) ∧ Hid (DigN U v sp)) (fun n _ => (-(intOf n)).toNat)
  case atStart => exact ⟨U, [], Nat.le_refl _, rfl, rfl, by simp, Lib.hid (by simp), Lib.hid (by unfold DigN; rw [if_neg (by omega)]; simp)⟩
  case round =>
    obtain ⟨v, sp, hv, rfl, rfl, hsl, HPW, HD⟩ := hrel
    by_cases hv0 : 0 < v
    · have hv1 : -(v : Int) < 0 := by omega
      have hl18 : sp.length ≤ 18 := len_low' hU hv0 HPW.out
      have ht : (-(v : Int)).tmod 10 = -((v % 10 : Nat) : Int) := by rw [Int.neg_tmod, Int.tmod_eq_emod_of_nonneg (by omega)]; omega
      have hq : (-(v : Int)).tdiv 10 = -((v / 10 : Nat) : Int) := by rw [Int.neg_tdiv, Int.tdiv_eq_ediv_of_nonneg (by omega)]; omega
      have hd0 : (v % 10 : Nat) < 10 := Nat.mod_lt _ (by omega)
      have hvM : -9223372036854775808 ≤ -(v : Int) := by omega
      have h10 := ten_at (v % 10) hd0
      go_wp2_with fail
      go_round
      case rel =>
        refine ⟨v / 10, UInt8.ofNat (48 + v % 10) :: sp, by omega, by go_num, ?_, by rw [List.length_cons]; omega, Lib.hid (by rw [List.length_cons]; exact pow_step HPW.out), Lib.hid (digN_step HD.out hv0)⟩
        congr 1
        ext1
        simp
      case measure => simp [intOf]; omega
    · obtain rfl : v = 0 := by omega
      have HE : Hid (sp = Lib.decDigits U) := Lib.hid (by have := HD.out; unfold DigN at this; rw [if_pos rfl] at this; exact this.symm)
      go_wp2_with fail
      go_ret
      exact ⟨by rw [← HE.out]; first | rfl | (congr 2; ext1; simp; done) | (congr 1; congr 1; ext1; simp; done) | (simp; done), rfl⟩

theorem digits_any (n : Int) (h0 : -9223372036854775808 ≤ n) (h1 : n ≤ 9223372036854775807) (w : World) :
    Calls Tryz.prog 56 #[.int .i64 n] w fun e w' => e = .returned (.string ⟨(Lib.itoa n).toArray⟩) ∧ w = w' := by
  by_cases h : n < 0
  · obtain ⟨u, rfl⟩ : ∃ u : Nat, n = -(u : Int) := ⟨n.natAbs, by omega⟩
    rw [Lib.itoa_neg u (by omega)]
    exact digits_neg u (by omega) (by omega) w
  · obtain ⟨u, rfl⟩ := Int.eq_ofNat_of_zero_le (show 0 ≤ n by omega)
    rw [Lib.itoa_nonneg]
    exact digits_pos u (by omega) w
end Go.Proofs.YtgdibfnpkcdiiaaGreatDoor

/- A program's text, as the document says (Text). By an AI agent. -/
namespace Go.Proofs.YtgdibfnpkcdiiaaGreatDoor
open Go.RowKit

theorem dig_any (n : Int) (h : I64 n) (w : World) : Calls Tryz.prog 56 #[.int .i64 n] w fun e w' => e = .returned (.string ⟨(Lib.itoa n).toArray⟩) ∧ Below w.heap.size w w' :=
  (digits_any n h.1 h.2 w).mono fun _e _w' ⟨he, hw⟩ => ⟨he, hw ▸ Below.refl _ _⟩
theorem cat_eq (a b : List UInt8) : (⟨a.toArray⟩ : ByteArray) ++ ⟨b.toArray⟩ = ⟨(a ++ b).toArray⟩ := by ext1; simp
theorem ret_s {a b : List UInt8} (h : a = b) : Ending.returned (.string ⟨a.toArray⟩) = Ending.returned (.string ⟨b.toArray⟩) := by rw [h]
def nineW (x : In) : List Int := [(x.op : Int), x.v, x.a, x.b, x.n, (x.bin : Int), x.f, x.arr, x.to]
theorem nums_snoc {l : List Int} {k : Nat} {z : Int} (h : l[k]? = some z) : numsT (l.take (k + 1)) = numsT (l.take k) ++ (32 :: Lib.itoa z) := by
  rw [List.take_add_one, h]; simp [numsT]

set_option maxRecDepth 100000 in
set_option maxHeartbeats 16000000 in
theorem rtext_any (g : PrG) (w : World) (hg : PrR w g) (tg : PrT g.p) (hlen : (textW g.p).length ≤ 1000000) :
    Calls Tryz.prog 17 #[prV g] w fun e w' => e = .returned (.string ⟨(textW g.p).toArray⟩) ∧ Below w.heap.size w w' := by
  obtain ⟨p, av, fv, l⟩ := g
  dsimp only at tg hlen
  have hge := hg.eq
  obtain ⟨⟨A, ca, hav, _, _⟩, ⟨F, cf, hfv, _, hfr⟩, _⟩ := hg
  dsimp only at hav hfv hfr hge
  subst hav; subst hfv
  obtain ⟨nl, hnl⟩ : ∃ n, n = l.length := ⟨_, rfl⟩
  have hfl : p.fns.length = nl := by rw [← hge, List.length_map, hnl]
  have hnlb : nl ≤ 1000000 := by rw [← hfl]; exact tg.fns
  unfold prV
  dsimp only
  rw [← hnl]
  have HGE := Lib.hid hge; have HFR := Lib.hid hfr; have HNL := Lib.hid hnl; have HFL := Lib.hid hfl; have TG := Lib.hid tg; have HLEN := Lib.hid hlen; have HNLB := Lib.hid hnlb
  clear hge hfr hnl hfl tg hlen hnlb
  go_enter Tryz.func17, Tryz.ntmps17
  go_wp2_with fail
  have hb1 : Below w.heap.size w (w.alloc (.cells #[.slice A p.arrays.length ca, .slice F nl cf, .int .i64 p.main] 30)) := (Below.refl _ _).alloc (Nat.le_refl _) _
  have hbk := Blk.new w 30 #[.slice A p.arrays.length ca, .slice F nl cf, .int .i64 p.main]
  obtain ⟨W1, hW1⟩ : ∃ W1, W1 = w.alloc (.cells #[.slice A p.arrays.length ca, .slice F nl cf, .int .i64 p.main] 30) := ⟨_, rfl⟩
  rw [← hW1] at hb1 hbk ⊢
  clear hW1
  have HB1 := Lib.hid hb1; have C1 := Lib.hid (hbk.cell 1)
  clear hb1 hbk
  go_loopg [3, 4] nl (fun gk vs v wr => ∃ (i : Nat) (L : List UInt8), i ≤ nl ∧ nl - i ≤ gk ∧ v = .int .i64 i ∧ vs = .string ⟨L.toArray⟩ ∧ Hid (L = (p.fns.take i).flatMap fnT) ∧ Hid (Below W1.heap.size W1 wr))
  case atStart => exact ⟨0, [], Nat.zero_le _, Nat.le_refl _, rfl, rfl, Lib.hid (by simp), Lib.hid (Below.refl _ _)⟩
  case round =>
    obtain ⟨i, L, hi, hgk, rfl, rfl, HL, HB⟩ := hrel
    have k1 := get_b HB.out C1.out
    have lk := cell_lt' k1
    by_cases hlt : i < nl
    case neg =>
      have q : decide ((i : Int) < (nl : Int)) = false := decide_eq_false (by omega)
      have HF := Lib.hid (show L = textW p by rw [HL.out, List.take_of_length_le (by rw [HFL.out]; omega)]; rfl)
      go_wp2_with fail
      go_ret
      exact ⟨ret_s HF.out, HB1.out.trans (HB.out.mono HB1.out.size)⟩
    case pos =>
      have q : decide ((i : Int) < (nl : Int)) = true := decide_eq_true (by omega)
      obtain ⟨x, hx⟩ : ∃ x, l[i]? = some x := ⟨_, List.getElem?_eq_getElem (by rw [← HNL.out]; exact hlt)⟩
      have hpx : p.fns[i]? = some x.fn := by rw [← HGE.out, List.getElem?_map, hx]; rfl
      have hwr := HB1.out.trans (HB.out.mono HB1.out.size)
      obtain ⟨fb, fo, hFe, hxf⟩ : ∃ b o, F = some ⟨b, o, none⟩ ∧ fnAt w b (o + i * 4) x := by
        rcases HFR.out with e | ⟨b, o, e, k⟩
        · rw [e] at hx; simp at hx
        · exact ⟨b, o, e, k i x hx⟩
      subst hFe
      have hxe := hxf.eq
      have hxw := hxf.below hwr
      obtain ⟨x0, x1, x2, x3, _, _⟩ := hxw
      obtain ⟨C, cc, hcv, _, hci⟩ := hxf.code
      obtain ⟨nc, hnc⟩ : ∃ n, n = x.l.length := ⟨_, rfl⟩
      rw [hcv, ← hnc] at x3
      have lb := cell_lt' x0
      have hii : (i : Int) < (nl : Int) := by omega
      have tf := TG.out.fn _ (List.mem_of_getElem? hpx)
      have hpre : ((p.fns.take (i + 1)).flatMap fnT).length ≤ 1000000 := Nat.le_trans (flat_take fnT p.fns (i + 1)) HLEN.out
      rw [flat_snoc fnT hpx, ← HL.out] at hpre
      have HPX := Lib.hid hpx; have HXE := Lib.hid hxe; have HCI := Lib.hid hci; have HNC := Lib.hid hnc; have TF := Lib.hid tf; have HPRE := Lib.hid hpre; have HWR := Lib.hid hwr
      have hbk := Blk.new wr 63 #[.string ⟨x.fn.name.toArray⟩, .int .i64 x.fn.params, .int .i64 x.fn.vars, .slice C nc cc]
      have hbw : Below wr.heap.size wr (wr.alloc (.cells #[.string ⟨x.fn.name.toArray⟩, .int .i64 x.fn.params, .int .i64 x.fn.vars, .slice C nc cc] 63)) := (Below.refl _ _).alloc (Nat.le_refl _) _
      have HBK := Lib.hid hbk; have HBW := Lib.hid hbw
      clear hx hpx hxe hxf hci hnc tf hpre hwr hcv hbk hbw
      go_upto_region 6 with fail
      obtain ⟨W2, hW2⟩ : ∃ W2, W2 = wr.alloc (.cells #[.string ⟨x.fn.name.toArray⟩, .int .i64 x.fn.params, .int .i64 x.fn.vars, .slice C nc cc] 63) := ⟨_, rfl⟩
      have hbk := HBK.out; have hbw := HBW.out
      rw [← hW2] at hbk hbw ⊢
      have K0 := Lib.hid (hbk.cell 0); have K1 := Lib.hid (hbk.cell 1); have K2 := Lib.hid (hbk.cell 2); have K3 := Lib.hid (hbk.cell 3)
      have HB2 := Lib.hid (HB.out.trans (hbw.mono HB.out.size))
      clear hW2 hbk hbw k1 lk x0 x1 x2 x3
      have HI1 := Lib.hid TF.out.ok.params; have HI2 := Lib.hid TF.out.ok.vars
      have hi1 := itoa_len HI1.out; have hi2 := itoa_len HI2.out
      have hnm : L.length + x.fn.name.length ≤ 1000000 := by have := HPRE.out; unfold fnT at this; simp only [List.length_append] at this; omega
      obtain ⟨s1, hs1⟩ : ∃ s, s = L ++ x.fn.name := ⟨_, rfl⟩
      obtain ⟨s2, hs2⟩ : ∃ s, s = s1 ++ [32] := ⟨_, rfl⟩
      obtain ⟨s3, hs3⟩ : ∃ s, s = s2 ++ Lib.itoa x.fn.params := ⟨_, rfl⟩
      obtain ⟨s4, hs4⟩ : ∃ s, s = s3 ++ [32] := ⟨_, rfl⟩
      obtain ⟨s5, hs5⟩ : ∃ s, s = s4 ++ Lib.itoa x.fn.vars := ⟨_, rfl⟩
      obtain ⟨s6, hs6⟩ : ∃ s, s = s5 ++ [10] := ⟨_, rfl⟩
      have hz1 : s1.length ≤ 1000000 := by rw [hs1, List.length_append]; omega
      have hz2 : s2.length ≤ 1000001 := by rw [hs2, List.length_append]; simp; omega
      have hz3 : s3.length ≤ 1000021 := by rw [hs3, List.length_append]; omega
      have hz4 : s4.length ≤ 1000022 := by rw [hs4, List.length_append]; simp; omega
      have hz5 : s5.length ≤ 1000042 := by rw [hs5, List.length_append]; omega
      have HC1 := Lib.hid ((cat_eq L x.fn.name).trans (by rw [← hs1])); have HZ1 := Lib.hid (show ¬ 9223372036854775807 < L.length + x.fn.name.length by omega)
      have HC2 := Lib.hid (show (⟨s1.toArray⟩ : ByteArray) ++ ⟨#[32]⟩ = ⟨s2.toArray⟩ from (cat_eq s1 [32]).trans (by rw [← hs2])); have HZ2 := Lib.hid (show ¬ 9223372036854775807 < s1.length + 1 by omega)
      have HC3 := Lib.hid ((cat_eq s2 (Lib.itoa x.fn.params)).trans (by rw [← hs3])); have HZ3 := Lib.hid (show ¬ 9223372036854775807 < s2.length + (Lib.itoa x.fn.params).length by omega)
      have HC4 := Lib.hid (show (⟨s3.toArray⟩ : ByteArray) ++ ⟨#[32]⟩ = ⟨s4.toArray⟩ from (cat_eq s3 [32]).trans (by rw [← hs4])); have HZ4 := Lib.hid (show ¬ 9223372036854775807 < s3.length + 1 by omega)
      have HC5 := Lib.hid ((cat_eq s4 (Lib.itoa x.fn.vars)).trans (by rw [← hs5])); have HZ5 := Lib.hid (show ¬ 9223372036854775807 < s4.length + (Lib.itoa x.fn.vars).length by omega)
      have HC6 := Lib.hid (show (⟨s5.toArray⟩ : ByteArray) ++ ⟨#[10]⟩ = ⟨s6.toArray⟩ from (cat_eq s5 [10]).trans (by rw [← hs6])); have HZ6 := Lib.hid (show ¬ 9223372036854775807 < s5.length + 1 by omega)
      have HS6 := Lib.hid (show s6 = L ++ x.fn.name ++ (numsT [x.fn.params, x.fn.vars] ++ [10]) by
        rw [hs6, hs5, hs4, hs3, hs2, hs1]
        simp [numsT])
      clear hs1 hs2 hs3 hs4 hs5 hs6 hz1 hz2 hz3 hz4 hz5 hi1 hi2 hnm
      refine wp_region_valsA [(none, .string ⟨L.toArray⟩), (none, .pointer (some ⟨wr.heap.size, 0, none⟩)), (none, .string ⟨x.fn.name.toArray⟩), (none, .string ⟨s1.toArray⟩), (none, .string ⟨s2.toArray⟩), (none, .pointer (some ⟨wr.heap.size, 1, none⟩)), (none, .int .i64 x.fn.params), (none, .string ⟨(Lib.itoa x.fn.params).toArray⟩), (none, .string ⟨s3.toArray⟩), (none, .string ⟨s4.toArray⟩), (none, .pointer (some ⟨wr.heap.size, 2, none⟩)), (none, .int .i64 x.fn.vars), (none, .string ⟨(Lib.itoa x.fn.vars).toArray⟩), (none, .string ⟨s5.toArray⟩), (none, .string ⟨s6.toArray⟩)] mixed (by kernel_rfl) ?_
      intro FF AA hA hF
      have hL : HasL FF [(3, .string ⟨L.toArray⟩), (5, .pointer (some ⟨wr.heap.size, 0, none⟩)), (23, .string ⟨L.toArray⟩), (24, .pointer (some ⟨wr.heap.size, 0, none⟩)), (25, .string ⟨x.fn.name.toArray⟩), (26, .string ⟨s1.toArray⟩), (27, .string ⟨s2.toArray⟩), (28, .pointer (some ⟨wr.heap.size, 1, none⟩)), (29, .int .i64 x.fn.params), (30, .string ⟨(Lib.itoa x.fn.params).toArray⟩), (31, .string ⟨s3.toArray⟩), (32, .string ⟨s4.toArray⟩), (33, .pointer (some ⟨wr.heap.size, 2, none⟩)), (34, .int .i64 x.fn.vars), (35, .string ⟨(Lib.itoa x.fn.vars).toArray⟩), (36, .string ⟨s5.toArray⟩), (37, .string ⟨s6.toArray⟩)] := by unfold HasL; rw [hF, hA]; kernel_rfl
      have HF := Lib.hid hF; clear hF; have HA := Lib.hid hA; clear hA
      refine ⟨?_, ?_⟩
      · intro W hW
        repeat clear ‹∀ (a : Act) (w : World), Code.wp Tryz.prog _ _ a w → _›
        have gff := gd_ff
        have gtt := gd_tt
        exact
        ResL.cons (OpRes.val (by have a3 := hL.at 0 rfl; go_simp)) (
        ResL.cons (OpRes.val (by have a5 := hL.at 1 rfl; go_simp)) (
        ResL.cons (OpRes.val (by have a24 := hL.at 3 rfl; have kk := get_b hW K0.out; go_simp)) (
        ResL.cons (OpRes.val (by have a23 := hL.at 2 rfl; have a25 := hL.at 4 rfl; have hc := HC1.out; have hz := HZ1.out; go_simp)) (
        ResL.cons (OpRes.val (by have a26 := hL.at 5 rfl; have hc := HC2.out; have hz := HZ2.out; go_simp)) (
        ResL.cons (OpRes.val (by have a5 := hL.at 1 rfl; go_simp)) (
        ResL.cons (OpRes.val (by have a28 := hL.at 7 rfl; have kk := get_b hW K1.out; go_simp)) (
        ResL.cons (OpRes.call 56 #[.int .i64 x.fn.params] (by have a29 := hL.at 8 rfl; go_simp) (dig_any _ HI1.out W)) (
        ResL.cons (OpRes.val (by have a27 := hL.at 6 rfl; have a30 := hL.at 9 rfl; have hc := HC3.out; have hz := HZ3.out; go_simp)) (
        ResL.cons (OpRes.val (by have a31 := hL.at 10 rfl; have hc := HC4.out; have hz := HZ4.out; go_simp)) (
        ResL.cons (OpRes.val (by have a5 := hL.at 1 rfl; go_simp)) (
        ResL.cons (OpRes.val (by have a33 := hL.at 12 rfl; have kk := get_b hW K2.out; go_simp)) (
        ResL.cons (OpRes.call 56 #[.int .i64 x.fn.vars] (by have a34 := hL.at 13 rfl; go_simp) (dig_any _ HI2.out W)) (
        ResL.cons (OpRes.val (by have a32 := hL.at 11 rfl; have a35 := hL.at 14 rfl; have hc := HC5.out; have hz := HZ5.out; go_simp)) (
        ResL.cons (OpRes.val (by have a36 := hL.at 15 rfl; have hc := HC6.out; have hz := HZ6.out; go_simp)) (
        ResL.nil)))))))))))))))
      intro W hW
      clear hL
      obtain ⟨gg, hFF⟩ : ∃ gg : Nat → Value, FF = putL [(23, gg 23), (24, gg 24), (25, gg 25), (26, gg 26), (27, gg 27), (28, gg 28), (29, gg 29), (30, gg 30), (31, gg 31), (32, gg 32), (33, gg 33), (34, gg 34), (35, gg 35), (36, gg 36), (37, .string ⟨s6.toArray⟩)] AA := ⟨fun k => FF.tmps.getD k undef, by rw [HF.out, HA.out]; kernel_rfl⟩
      clear HF
      rw [HA.out] at hFF; clear HA
      simp only [putL, Act.put, List.setIfInBounds_toArray, List.set_cons_zero, List.set_cons_succ] at hFF
      subst hFF
      have HBW := Lib.hid (HB2.out.trans (hW.mono HB2.out.size)); have K3 := Lib.hid (get_b hW K3.out)
      have hnc : nc ≤ 1000000 := by rw [HNC.out, ← List.length_map (f := (·.1)), HXE.out]; exact TF.out.len
      clear hW
      go_wp2_with fail
      obtain ⟨ko, rfl⟩ : ∃ ko, gk = ko + 1 := ⟨gk - 1, by omega⟩
      obtain ⟨W3, hW3⟩ : ∃ x, x = W := ⟨_, rfl⟩
      rw [← hW3] at HBW K3 ⊢
      clear hW3
      go_loopg [3, 6] nc (fun gk vs v wr => ∃ (j : Nat) (S : List UInt8), j ≤ nc ∧ nc - j ≤ gk ∧ v = .int .i64 j ∧ vs = .string ⟨S.toArray⟩ ∧ Hid (S = s6 ++ (x.fn.code.take j).flatMap insT) ∧ Hid (Below W3.heap.size W3 wr))
      case atStart => exact ⟨0, s6, Nat.zero_le _, Nat.le_refl _, rfl, rfl, Lib.hid (by simp), Lib.hid (Below.refl _ _)⟩
      case round =>
        obtain ⟨j, S, hj, hgk2, rfl, rfl, HS, HJ⟩ := hrel
        have k3 := get_b HJ.out K3.out
        have lk := cell_lt' k3
        by_cases hlt2 : j < nc
        case neg =>
          have q2 : decide ((j : Int) < (nc : Int)) = false := decide_eq_false (by omega)
          have HF := Lib.hid (show S = (p.fns.take (i + 1)).flatMap fnT by
            rw [HS.out, List.take_of_length_le (by rw [← HXE.out, List.length_map, ← HNC.out]; omega), flat_snoc fnT HPX.out, HS6.out, HL.out]
            unfold fnT
            simp only [List.append_assoc])
          have hnlb := HNLB.out
          have HBF := Lib.hid (HBW.out.trans (HJ.out.mono HBW.out.size))
          go_wp2_with fail
          go_roundg ko
          case measure => omega
          case rel => exact ⟨i + 1, S, by omega, by omega, by simp, rfl, HF, HBF⟩
        case pos =>
          have q2 : decide ((j : Int) < (nc : Int)) = true := decide_eq_true (by omega)
          obtain ⟨y, hy⟩ : ∃ y, x.l[j]? = some y := ⟨_, List.getElem?_eq_getElem (by rw [← HNC.out]; exact hlt2)⟩
          have hpy : x.fn.code[j]? = some y.1 := by rw [← HXE.out, List.getElem?_map, hy]; rfl
          have hwj : Below w.heap.size w wr := HB1.out.trans ((HBW.out.trans (HJ.out.mono HBW.out.size)).mono HB1.out.size)
          obtain ⟨cb, co, hCe, hyf⟩ : ∃ b o, C = some ⟨b, o, none⟩ ∧ insAt w b (o + j * 10) y := by
            rcases HCI.out with e | ⟨b, o, e, k⟩
            · rw [e] at hy; simp at hy
            · exact ⟨b, o, e, k j y hy⟩
          subst hCe
          obtain ⟨y0, y1, y2, y3, y4, y5, y6, y7, y8, y9, hya⟩ := hyf.below hwj
          have lb2 := cell_lt' y0
          have hjj : (j : Int) < (nc : Int) := by omega
          have hym := List.mem_of_getElem? hpy
          have hyo := TF.out.ok.code _ hym
          have hyl := TF.out.args _ hym
          have hq : (s6 ++ (x.fn.code.take (j + 1)).flatMap insT) = S ++ insT y.1 := by rw [flat_snoc insT hpy, HS.out, List.append_assoc]
          have hpl : S.length ≤ 1000000 := by
            have := flat_take insT x.fn.code j; have h2 := HPRE.out
            rw [HS.out, HS6.out]
            unfold fnT at h2
            simp only [List.length_append] at h2 ⊢
            omega
          obtain ⟨Y, cy, hyv, hyc, hyr⟩ := hya
          obtain ⟨ny, hny⟩ : ∃ n, n = y.1.args.length := ⟨_, rfl⟩
          rw [← hny] at hyv hyc
          rw [hyv] at y6
          have bk := Blk.new wr 75 #[.int .u8 y.1.op, .int .i64 y.1.v, .int .i64 y.1.a, .int .i64 y.1.b, .int .i64 y.1.n, .int .u8 y.1.bin, .slice Y ny cy, .int .i64 y.1.f, .int .i64 y.1.arr, .int .i64 y.1.to]
          have hbw4 : Below wr.heap.size wr (wr.alloc (.cells #[.int .u8 y.1.op, .int .i64 y.1.v, .int .i64 y.1.a, .int .i64 y.1.b, .int .i64 y.1.n, .int .u8 y.1.bin, .slice Y ny cy, .int .i64 y.1.f, .int .i64 y.1.arr, .int .i64 y.1.to] 75)) := (Below.refl _ _).alloc (Nat.le_refl _) _
          have HBK := Lib.hid bk; have HBW4 := Lib.hid hbw4; have HQ := Lib.hid hq; have HPL := Lib.hid hpl; have HYO := Lib.hid hyo; have HYL := Lib.hid hyl; have HYR := Lib.hid hyr; have HNY := Lib.hid hny; have HWJ := Lib.hid hwj
          clear bk hbw4 hq hpl hyo hyl hyr hny hwj hym hpy hy hyf hyv
          go_upto_region 11 with fail
          obtain ⟨W4, hW4⟩ : ∃ W4, W4 = wr.alloc (.cells #[.int .u8 y.1.op, .int .i64 y.1.v, .int .i64 y.1.a, .int .i64 y.1.b, .int .i64 y.1.n, .int .u8 y.1.bin, .slice Y ny cy, .int .i64 y.1.f, .int .i64 y.1.arr, .int .i64 y.1.to] 75) := ⟨_, rfl⟩
          have hbk := HBK.out; have hbw := HBW4.out
          rw [← hW4] at hbk hbw ⊢
          have j0 := hbk.cell 0; have j1 := hbk.cell 1; have j2 := hbk.cell 2; have j3 := hbk.cell 3; have j4 := hbk.cell 4; have j5 := hbk.cell 5; have j6 := hbk.cell 6; have j7 := hbk.cell 7; have j8 := hbk.cell 8; have j9 := hbk.cell 9
          have J6 := Lib.hid j6; have HBM := Lib.hid hbw
          have HB4 := Lib.hid (HJ.out.trans (hbw.mono HJ.out.size))
          have lj := hbk.lt
          clear hW4 hbk hbw k3 lk y0 y1 y2 y3 y4 y5 y6 y7 y8 y9 HBK HBW4
          have hop := HYO.out.op; have hbin := HYO.out.bin
          have w1 : IntKind.i64.wrap (y.1.op : Int) = (y.1.op : Int) := IntWalk.i64_in _ (by omega)
          have w2 : IntKind.i64.wrap (y.1.bin : Int) = (y.1.bin : Int) := IntWalk.i64_in _ (by omega)
          go_wp2_with fail
          have HN9 := Lib.hid (fun (k : Nat) (z : Int) (h : (nineW y.1)[k]? = some z) => show (W4.alloc (.cells #[.int .i64 y.1.op, .int .i64 y.1.v, .int .i64 y.1.a, .int .i64 y.1.b, .int .i64 y.1.n, .int .i64 y.1.bin, .int .i64 y.1.f, .int .i64 y.1.arr, .int .i64 y.1.to] 2)).cell? ⟨W4.heap.size, k, none⟩ = some (.int .i64 z) from ((Blk.new W4 2 #[.int .i64 y.1.op, .int .i64 y.1.v, .int .i64 y.1.a, .int .i64 y.1.b, .int .i64 y.1.n, .int .i64 y.1.bin, .int .i64 y.1.f, .int .i64 y.1.arr, .int .i64 y.1.to]).cell k).trans (by
            rw [show #[.int .i64 y.1.op, .int .i64 y.1.v, .int .i64 y.1.a, .int .i64 y.1.b, .int .i64 y.1.n, .int .i64 y.1.bin, .int .i64 y.1.f, .int .i64 y.1.arr, .int .i64 y.1.to] = ((nineW y.1).map fun z => Value.int .i64 z).toArray from rfl]
            simp [h]))
          have hb5 : Below W4.heap.size W4 (W4.alloc (.cells #[.int .i64 y.1.op, .int .i64 y.1.v, .int .i64 y.1.a, .int .i64 y.1.b, .int .i64 y.1.n, .int .i64 y.1.bin, .int .i64 y.1.f, .int .i64 y.1.arr, .int .i64 y.1.to] 2)) := (Below.refl _ _).alloc (Nat.le_refl _) _
          have h9l : (nineW y.1).length = 9 := rfl
          obtain ⟨W5, hW5⟩ : ∃ W5, W5 = W4.alloc (.cells #[.int .i64 y.1.op, .int .i64 y.1.v, .int .i64 y.1.a, .int .i64 y.1.b, .int .i64 y.1.n, .int .i64 y.1.bin, .int .i64 y.1.f, .int .i64 y.1.arr, .int .i64 y.1.to] 2) := ⟨_, rfl⟩
          rw [← hW5] at HN9 hb5 ⊢
          have HB5 := Lib.hid hb5; have H9L := Lib.hid h9l
          clear hW5 hb5 h9l j0 j1 j2 j3 j4 j5 j6 j7 j8 j9 lj w1 w2 hop hbin lb2
          obtain ⟨km, rfl⟩ : ∃ km, gk = km + 1 := ⟨gk - 1, by omega⟩
          go_loopg [3, 72] 9 (fun gk vs v wr => ∃ (k : Nat) (T : List UInt8), k ≤ 9 ∧ 9 - k ≤ gk ∧ v = .int .i64 k ∧ vs = .string ⟨T.toArray⟩ ∧ Hid (T = S ++ numsT ((nineW y.1).take k)) ∧ Hid (Below W5.heap.size W5 wr))
          case atStart => exact ⟨0, S, Nat.zero_le _, Nat.le_refl _, rfl, rfl, Lib.hid (by simp [numsT]), Lib.hid (Below.refl _ _)⟩
          case round =>
            obtain ⟨k, T, hk, hgk3, rfl, rfl, HT, HK⟩ := hrel
            have hn9 := nums_len (l := (nineW y.1).take k) (fun z hz => HYO.out.all z (List.mem_append_left _ (List.mem_of_mem_take hz)))
            have hn9l : ((nineW y.1).take k).length ≤ 9 := by simp; omega
            have htl : T.length ≤ 1000200 := by have := HPL.out; rw [HT.out, List.length_append]; omega
            by_cases hlt3 : k < 9
            case pos =>
              have q3 : decide ((k : Int) < 9) = true := decide_eq_true (by omega)
              obtain ⟨z, hz⟩ : ∃ z, (nineW y.1)[k]? = some z := ⟨_, List.getElem?_eq_getElem (by rw [H9L.out]; exact hlt3)⟩
              have hzi : I64 z := HYO.out.all z (List.mem_append_left _ (List.mem_of_getElem? hz))
              have hcz := get_b HK.out (HN9.out k z hz)
              have lz := cell_lt' hcz
              have hkk : (k : Int) < 9 := by omega
              have hzl := itoa_len hzi
              obtain ⟨t1, ht1⟩ : ∃ t, t = T ++ [32] := ⟨_, rfl⟩
              obtain ⟨t2, ht2⟩ : ∃ t, t = t1 ++ Lib.itoa z := ⟨_, rfl⟩
              have hz1 : t1.length ≤ 1000201 := by rw [ht1, List.length_append]; simp; omega
              have HT1 := Lib.hid (show (⟨T.toArray⟩ : ByteArray) ++ ⟨#[32]⟩ = ⟨t1.toArray⟩ from (cat_eq T [32]).trans (by rw [← ht1]))
              have HT2 := Lib.hid ((cat_eq t1 (Lib.itoa z)).trans (by rw [← ht2]))
              have HT3 := Lib.hid (show t2 = S ++ numsT ((nineW y.1).take (k + 1)) by rw [nums_snoc hz, ht2, ht1, HT.out]; simp)
              have hs1 : ¬ 9223372036854775807 < T.length + 1 := by omega
              have hs2 : ¬ 9223372036854775807 < t1.length + (Lib.itoa z).length := by omega
              have HZI := Lib.hid hzi
              have e1 := HT1.out
              have e2 := HT2.out
              clear ht1 ht2 hz hzi hzl hz1 htl hn9 hn9l
              go_wp2_with fail
              refine (dig_any z HZI.out _).mono ?_
              rintro e w1 ⟨rfl, hbd⟩
              have HBF := Lib.hid (HK.out.trans (hbd.mono HK.out.size))
              clear hbd
              go_wp2_with fail
              cases gk with
              | zero => omega
              | succ gk =>
                go_roundg gk
                case measure => omega
                case rel => exact ⟨k + 1, t2, by omega, by omega, by simp, rfl, HT3, HBF⟩
            case neg =>
              have q3 : decide ((k : Int) < 9) = false := decide_eq_false (by omega)
              have HT9 := Lib.hid (show T = S ++ numsT (nineW y.1) by rw [HT.out, List.take_of_length_le (by rw [H9L.out]; omega)])
              go_wp2_with fail
              have hbf := HB5.out.trans (HK.out.mono HB5.out.size)
              have j6 := get_b hbf J6.out
              obtain ⟨W6, hW6⟩ : ∃ x, x = wr := ⟨_, rfl⟩
              rw [← hW6] at hbf j6 ⊢
              have HB6 := Lib.hid hbf; have J6 := Lib.hid j6
              have hnyb : ny ≤ 1000 := by rw [HNY.out]; exact HYL.out
              have ht9 : T.length ≤ 1000200 := htl
              clear hW6 hbf j6 hn9 hn9l htl HT HK
              obtain ⟨kq, rfl⟩ : ∃ kq, gk = kq := ⟨gk, rfl⟩
              go_loopg [3, 10] ny (fun gk vs v wr => ∃ (k : Nat) (U : List UInt8), k ≤ ny ∧ ny - k ≤ gk ∧ v = .int .i64 k ∧ vs = .string ⟨U.toArray⟩ ∧ Hid (U = T ++ numsT (y.1.args.take k)) ∧ Hid (Below W6.heap.size W6 wr))
              case atStart => exact ⟨0, T, Nat.zero_le _, Nat.le_refl _, rfl, rfl, Lib.hid (by simp [numsT]), Lib.hid (Below.refl _ _)⟩
              case round =>
                obtain ⟨m, U, hm, hgk4, rfl, rfl, HU, HM⟩ := hrel
                have hna := nums_len (l := y.1.args.take m) (fun z hz => HYO.out.all z (List.mem_append_right _ (List.mem_of_mem_take hz)))
                have hnal : (y.1.args.take m).length ≤ 1000 := by have := HYL.out; simp; omega
                have hul : U.length ≤ 1021200 := by rw [HU.out, List.length_append]; omega
                have c6 := get_b HM.out J6.out
                have lc := cell_lt' c6
                by_cases hlt4 : m < ny
                case pos =>
                  have q4 : decide ((m : Int) < (ny : Int)) = true := decide_eq_true (by omega)
                  obtain ⟨z, hz⟩ : ∃ z, y.1.args[m]? = some z := ⟨_, List.getElem?_eq_getElem (by rw [← HNY.out]; exact hlt4)⟩
                  have hzi : I64 z := HYO.out.all z (List.mem_append_right _ (List.mem_of_getElem? hz))
                  obtain ⟨ab, ao, hYe, hcz⟩ : ∃ b o, Y = some ⟨b, o, none⟩ ∧ wr.cell? ⟨b, o + m * 1, none⟩ = some (.int .i64 z) := by
                    rcases HYR.out with e | ⟨b, o, e, k⟩
                    · rw [e] at hz; simp at hz
                    · exact ⟨b, o, e, get_b HM.out (get_b HB6.out (get_b HBM.out (k m z hz)))⟩
                  subst hYe
                  rw [Nat.mul_one] at hcz
                  have lz := cell_lt' hcz
                  have hmm : (m : Int) < (ny : Int) := by omega
                  have hzl := itoa_len hzi
                  obtain ⟨t1, ht1⟩ : ∃ t, t = U ++ [32] := ⟨_, rfl⟩
                  obtain ⟨t2, ht2⟩ : ∃ t, t = t1 ++ Lib.itoa z := ⟨_, rfl⟩
                  have hz1 : t1.length ≤ 1021201 := by rw [ht1, List.length_append]; simp; omega
                  have HT1 := Lib.hid (show (⟨U.toArray⟩ : ByteArray) ++ ⟨#[32]⟩ = ⟨t1.toArray⟩ from (cat_eq U [32]).trans (by rw [← ht1]))
                  have HT2 := Lib.hid ((cat_eq t1 (Lib.itoa z)).trans (by rw [← ht2]))
                  have HT3 := Lib.hid (show t2 = T ++ numsT (y.1.args.take (m + 1)) by rw [nums_snoc hz, ht2, ht1, HU.out]; simp)
                  have hs1 : ¬ 9223372036854775807 < U.length + 1 := by omega
                  have hs2 : ¬ 9223372036854775807 < t1.length + (Lib.itoa z).length := by omega
                  have HZI := Lib.hid hzi
                  have e1 := HT1.out
                  have e2 := HT2.out
                  clear ht1 ht2 hz hzi hzl hz1 hul hna hnal
                  go_wp2_with fail
                  refine (dig_any z HZI.out _).mono ?_
                  rintro e w1 ⟨rfl, hbd⟩
                  have HBF := Lib.hid (HM.out.trans (hbd.mono HM.out.size))
                  clear hbd
                  go_wp2_with fail
                  cases gk with
                  | zero => omega
                  | succ gk =>
                    go_roundg gk
                    case measure => omega
                    case rel => exact ⟨m + 1, t2, by omega, by omega, by simp, rfl, HT3, HBF⟩
                case neg =>
                  have q4 : decide ((m : Int) < (ny : Int)) = false := decide_eq_false (by omega)
                  obtain ⟨t1, ht1⟩ : ∃ t, t = U ++ [10] := ⟨_, rfl⟩
                  have HT1 := Lib.hid (show (⟨U.toArray⟩ : ByteArray) ++ ⟨#[10]⟩ = ⟨t1.toArray⟩ from (cat_eq U [10]).trans (by rw [← ht1]))
                  have HT3 := Lib.hid (show t1 = s6 ++ (x.fn.code.take (j + 1)).flatMap insT by
                    rw [ht1, HU.out, List.take_of_length_le (by rw [← HNY.out]; omega), HQ.out, HT9.out]
                    have e : numbersW y.1 = nineW y.1 ++ y.1.args := rfl
                    unfold insT
                    rw [e]
                    simp [numsT])
                  have hs1 : ¬ 9223372036854775807 < U.length + 1 := by omega
                  have HBF := Lib.hid (HB4.out.trans ((HB6.out.trans (HM.out.mono HB6.out.size)).mono HB4.out.size))
                  have e1 := HT1.out
                  clear ht1 hul hna hnal
                  go_wp2_with fail
                  go_roundg km
                  case measure => omega
                  case rel => exact ⟨j + 1, t1, by omega, by omega, by simp, rfl, HT3, HBF⟩
end Go.Proofs.YtgdibfnpkcdiiaaGreatDoor

/- A program that is copied by appends (law16's plain): what its rows hold. By an AI agent. -/
namespace Go.Proofs.YtgdibfnpkcdiiaaGreatDoor
open Go.RowKit

def fnC (x : FnG) : List Value := [.string ⟨x.fn.name.toArray⟩, .int .i64 x.fn.params, .int .i64 x.fn.vars, x.cv]
def insC1 (y : InV) : List Value := [.int .u8 y.1.op, .int .i64 y.1.v, .int .i64 y.1.a, .int .i64 y.1.b, .int .i64 y.1.n, .int .u8 y.1.bin, y.2, .int .i64 y.1.f, .int .i64 y.1.arr, .int .i64 y.1.to]
theorem rows_at {α : Type} (C : α → List Value) (z : Nat) (hz : ∀ x, (C x).length = z) : ∀ (l : List α) (i k : Nat) (x : α), l[i]? = some x → k < z → (l.flatMap C)[i * z + k]? = (C x)[k]?
  | [], i, k, x, h, _ => by simp at h
  | m :: r, 0, k, x, h, hk => by
    simp at h; subst h
    rw [List.flatMap_cons, Nat.zero_mul, Nat.zero_add, List.getElem?_append_left (by rw [hz]; exact hk)]
  | m :: r, i + 1, k, x, h, hk => by
    have ih := rows_at C z hz r i k x (by simpa using h) hk
    rw [List.flatMap_cons, List.getElem?_append_right (by rw [hz, Nat.add_mul]; omega), hz, show (i + 1) * z + k - z = i * z + k by rw [Nat.add_mul]; omega]
    exact ih
theorem rows_own {α : Type} (C : α → List Value) (z : Nat) (hz : ∀ x, (C x).length = z) {R : World → Nat → Nat → α → Prop} {w : World} {base e : Nat} {v : Value} {l : List α} (h : w.ownsRow base e z v l.length (l.flatMap C))
    (k : ∀ b o x, x ∈ l → (∀ q, q < z → w.cell? ⟨b, o + q, none⟩ = (C x)[q]?) → R w b o x) : RowsV z R w v l := by
  by_cases h0 : l = []
  · subst h0
    obtain ⟨A, c, rfl⟩ := own_form h
    exact ⟨A, c, rfl, by simp, Or.inl rfl⟩
  · have hpos : 0 < l.length := List.length_pos_iff.2 h0
    obtain ⟨g, cap, hv, hc, hlt⟩ := h.form hpos
    refine ⟨_, cap, hv, ?_, Or.inr ⟨g, 0, rfl, fun i x hi => k _ _ _ (List.mem_of_getElem? hi) fun q hq => ?_⟩⟩
    · rcases h.2 with ⟨_, hn⟩ | ⟨g', cap', cur, hv', _, _, hc', _⟩
      · omega
      · rw [hv] at hv'; injection hv' with _ _ e; omega
    · subst hv
      have hil := (List.getElem?_eq_some_iff.1 hi).1
      have := h.cellAt (i * z + q) (by
        have h1 : (i + 1) * z ≤ l.length * z := Nat.mul_le_mul_right _ hil
        rw [Nat.add_mul] at h1; omega)
      rw [Nat.zero_add, this]
      exact rows_at C z hz l i q x hi hq
theorem own_ne {w : World} {base e size n base' e' size' n' : Nat} {v v' : Value} {xs xs' : List Value} (h : w.ownsRow base e size v n xs) (h' : w.ownsRow base' e' size' v' n' xs') (he : e ≠ e') : v.ownBlock = none ∨ v.ownBlock ≠ v'.ownBlock := by
  rcases h.2 with ⟨rfl, _⟩ | ⟨g, cap, cur, rfl, _, hg, _⟩
  · exact Or.inl rfl
  · rcases h'.2 with ⟨rfl, _⟩ | ⟨g', cap', cur', rfl, _, hg', _⟩
    · exact Or.inr (by simp [Value.ownBlock])
    · refine Or.inr fun hh => ?_
      simp only [Value.ownBlock, Option.some.injEq] at hh
      subst hh
      rw [hg] at hg'
      injection hg' with hg'
      injection hg' with _ e2
      exact he e2
theorem own_lower {w : World} {base base' e size n : Nat} {v : Value} {xs : List Value} (h : w.ownsRow base e size v n xs) (hb : base' ≤ base) : w.ownsRow base' e size v n xs := by
  refine ⟨h.1, ?_⟩
  rcases h.2 with hn | ⟨g, cap, cur, hv, hg, r⟩
  · exact Or.inl hn
  · exact Or.inr ⟨g, cap, cur, hv, Nat.le_trans hb hg, r⟩
theorem set_grown (w : World) (p : Addr) (u : Value) : w.grownBy (w.setCell p u) (some p.block) :=
  ⟨rfl, rfl, rfl, by simp [World.setCell], fun k _ hk => Below.heap_setCell _ _ _ _ (fun e => hk (by rw [e]))⟩
theorem own_set {w : World} {base e size n : Nat} {v : Value} {xs : List Value} (h : w.ownsRow base e size v n xs) {b o : Nat} (hb : b < base) (u : Value) : (w.setCell ⟨b, o, none⟩ u).ownsRow base e size v n xs :=
  h.kept (set_grown w ⟨b, o, none⟩ u) (by
    cases hv : v.ownBlock with
    | none => exact Or.inl rfl
    | some k => exact Or.inr (by have := (h.lt k hv).1; simp; omega))
structure CodeOwn (w0 w : World) (B : Nat) (x : FnG) : Prop where
  row : w.ownsRow B 75 10 x.cv x.l.length (x.l.flatMap insC1)
  eq : x.l.map (·.1) = x.fn.code
  args : ∀ y ∈ x.l, IntsV w0 y.2 y.1.args
/-- The copy so far: its block B, its functions' row, their codes' rows. -/
structure OS (w0 : World) (B : Nat) (av : Value) (m : Int) (w : World) (vf : Value) (l : List FnG) : Prop where
  blk : Blk w B 30 #[av, vf, .int .i64 m]
  row : w.ownsRow (B + 1) 63 4 vf l.length (l.flatMap fnC)
  code : ∀ x ∈ l, CodeOwn w0 w (B + 1) x
section
variable {w0 w w' : World} {B : Nat} {av vf : Value} {m : Int} {l : List FnG}
theorem OS.below (h : OS w0 B av m w vf l) (hb : Below w.heap.size w w') : OS w0 B av m w' vf l :=
  ⟨h.blk.below hb, own_below h.row hb, fun x hx => ⟨own_below (h.code x hx).row hb, (h.code x hx).eq, (h.code x hx).args⟩⟩
theorem OS.set (h : OS w0 B av m w vf l) {b o : Nat} (hb : b < B) (u : Value) : OS w0 B av m (w.setCell ⟨b, o, none⟩ u) vf l :=
  ⟨h.blk.far (by omega) _ _, own_set h.row (by omega) _, fun x hx => ⟨own_set (h.code x hx).row (by omega) _, (h.code x hx).eq, (h.code x hx).args⟩⟩
/-- One function more: appended to the row, the row's new value stored. -/
theorem OS.next (h : OS w0 B av m w vf l) {vf' : Value} {x : FnG} (hx : CodeOwn w0 w (B + 1) x) (hg : w.grownBy w' vf.ownBlock) (hr : w'.ownsRow (B + 1) 63 4 vf' (l.length + 1) (l.flatMap fnC ++ fnC x)) : OS w0 B av m (w'.setCell ⟨B, 1, none⟩ vf') vf' (l ++ [x]) := by
  have hc : ∀ y, CodeOwn w0 w (B + 1) y → CodeOwn w0 (w'.setCell ⟨B, 1, none⟩ vf') (B + 1) y := fun y hy =>
    ⟨own_set (hy.row.kept hg (own_ne hy.row h.row (by decide))) (by omega) _, hy.eq, hy.args⟩
  refine ⟨?_, ?_, fun y hy => ?_⟩
  · have hb : Blk w' B 30 #[av, vf, .int .i64 m] := (hg.block B h.blk.lt (fun e => by have := (h.row.lt B e.symm).1; omega)).trans h.blk
    exact hb.put 1 vf'
  · have := own_set hr (b := B) (o := 1) (by omega) vf'
    simpa using this
  · rcases List.mem_append.1 hy with hy | hy
    · exact hc y (h.code y hy)
    · rw [List.mem_singleton] at hy; subst hy; exact hc y hx
theorem OS.pr (h : OS w0 B av m w vf l) (hb : Below w0.heap.size w0 w) {ks : List Int} (ha : IntsV w0 av ks) : PrR w ⟨⟨ks, l.map (·.fn), m⟩, av, vf, l⟩ := by
  refine ⟨ha.below hb, rows_own fnC 4 (fun _ => rfl) h.row fun b o x hx hc => ?_, rfl⟩
  refine ⟨hc 0 (by omega), hc 1 (by omega), hc 2 (by omega), hc 3 (by omega), rows_own insC1 10 (fun _ => rfl) (h.code x hx).row fun b o y hy hq => ?_, (h.code x hx).eq⟩
  exact ⟨hq 0 (by omega), hq 1 (by omega), hq 2 (by omega), hq 3 (by omega), hq 4 (by omega), hq 5 (by omega), hq 6 (by omega), hq 7 (by omega), hq 8 (by omega), hq 9 (by omega), ((h.code x hx).args y hy).below hb⟩
end
end Go.Proofs.YtgdibfnpkcdiiaaGreatDoor

/- A program that is copied by appends (law16's plain). By an AI agent. -/
namespace Go.Proofs.YtgdibfnpkcdiiaaGreatDoor
open Go.RowKit

theorem ins_args {w : World} {v : Value} {l : List InV} (h : InsV w v l) : ∀ y ∈ l, IntsV w y.2 y.1.args := fun y hy => by
  obtain ⟨A, c, _, _, h⟩ := h
  obtain ⟨i, hi⟩ := List.mem_iff_getElem?.1 hy
  rcases h with e | ⟨b, o, _, k⟩
  · rw [e] at hi; simp at hi
  · exact (k i y hi).args
theorem heap_new_at (W : World) (o : Obj) {B : Nat} (h : W.heap.size = B) : (W.alloc o).heap[B]? = some o := h ▸ heap_alloc_new W o
theorem info75 : (Tryz.prog.info? 75).map (fun i => (i.zero, i.size, i.bytes)) = some (some (.agg #[.int .u8 0, .int .i64 0, .int .i64 0, .int .i64 0, .int .i64 0, .int .u8 0, .slice none 0 0, .int .i64 0, .int .i64 0, .int .i64 0]), 10, 96) := by kernel_rfl
theorem info63 : (Tryz.prog.info? 63).map (fun i => (i.zero, i.size, i.bytes)) = some (some (.agg #[.string ⟨#[]⟩, .int .i64 0, .int .i64 0, .slice none 0 0]), 4, 56) := by kernel_rfl
set_option maxRecDepth 100000 in
set_option maxHeartbeats 16000000 in
theorem plain_any (g : PrG) (w : World) (hg : PrR w g) (tg : PrT g.p) :
    Calls Tryz.prog 13 #[prV g] w fun e w' => ∃ g', e = .returned (prV g') ∧ PrR w' g' ∧ g'.p = g.p ∧ Below w.heap.size w w' := by
  obtain ⟨p, av, fv, l⟩ := g
  dsimp only at tg
  have hge := hg.eq
  have harr := hg.arrays
  obtain ⟨⟨A, ca, hav, _, _⟩, ⟨F, cf, hfv, _, hfr⟩, _⟩ := hg
  dsimp only at hav hfv hfr hge harr
  rw [hav] at harr
  subst hav; subst hfv
  obtain ⟨nl, hnl⟩ : ∃ n, n = l.length := ⟨_, rfl⟩
  have hfl : p.fns.length = nl := by rw [← hge, List.length_map, hnl]
  have hnlb : nl ≤ 1000000 := by rw [← hfl]; exact tg.fns
  unfold prV
  dsimp only
  rw [← hnl]
  have HGE := Lib.hid hge; have HFR := Lib.hid hfr; have HNL := Lib.hid hnl; have HFL := Lib.hid hfl; have TG := Lib.hid tg; have HNLB := Lib.hid hnlb; have HARR := Lib.hid harr
  clear hge hfr hnl hfl tg hnlb harr
  go_enter Tryz.func13, Tryz.ntmps13
  go_wp2_with fail
  obtain ⟨W1, hW1⟩ : ∃ W1, W1 = ((w.alloc (.cells #[.slice A p.arrays.length ca, .slice F nl cf, .int .i64 p.main] 25)).alloc (.cells #[.slice none 0 0, .slice none 0 0, .int .i64 0] 30)).alloc (.cells #[.slice A p.arrays.length ca, .slice none 0 0, .int .i64 p.main] 30) := ⟨_, rfl⟩
  have hb1 : Below w.heap.size w W1 := by rw [hW1]; exact (((Below.refl _ _).alloc (Nat.le_refl _) _).alloc (by simp) _).alloc (by simp; omega) _
  have hbk1 : Blk W1 w.heap.size 25 #[.slice A p.arrays.length ca, .slice F nl cf, .int .i64 p.main] := by rw [hW1]; exact ((Blk.new w 25 _).alloc _).alloc _
  have hbk2 : Blk W1 (w.heap.size + 1) 30 #[.slice none 0 0, .slice none 0 0, .int .i64 0] := by
    rw [hW1]
    have := (Blk.new (w.alloc (.cells #[.slice A p.arrays.length ca, .slice F nl cf, .int .i64 p.main] 25)) 30 #[.slice none 0 0, .slice none 0 0, .int .i64 0]).alloc (.cells #[.slice A p.arrays.length ca, .slice none 0 0, .int .i64 p.main] 30)
    simpa only [World.size_alloc] using this
  have hos : OS w (w.heap.size + 2) (.slice A p.arrays.length ca) p.main W1 (.slice none 0 0) [] := by
    refine ⟨?_, ⟨by simp, Or.inl ⟨rfl, rfl⟩⟩, fun _ h => by simp at h⟩
    rw [hW1]
    have := Blk.new ((w.alloc (.cells #[.slice A p.arrays.length ca, .slice F nl cf, .int .i64 p.main] 25)).alloc (.cells #[.slice none 0 0, .slice none 0 0, .int .i64 0] 30)) 30 #[.slice A p.arrays.length ca, .slice none 0 0, .int .i64 p.main]
    simpa only [World.size_alloc] using this
  have hsz1 : W1.heap.size = w.heap.size + 3 := by rw [hW1]; simp
  rw [← hW1]
  have HB1 := Lib.hid hb1; have C1 := Lib.hid (hbk1.cell 1); have HBK2 := Lib.hid hbk2; have HOS := Lib.hid hos; have HS1 := Lib.hid hsz1
  clear hW1 hb1 hbk1 hbk2 hos hsz1
  go_loopg [4] nl (fun gk v wr => ∃ (i : Nat) (vf : Value) (l2 : List FnG), i ≤ nl ∧ nl - i ≤ gk ∧ v = .int .i64 i ∧ Hid (OS w (w.heap.size + 2) (.slice A p.arrays.length ca) p.main wr vf l2) ∧ Hid (l2.map (·.fn) = p.fns.take i) ∧ Hid (Below (w.heap.size + 2) W1 wr))
  case atStart => exact ⟨0, _, [], Nat.zero_le _, Nat.le_refl _, rfl, HOS, Lib.hid (by simp), Lib.hid (Below.refl _ _)⟩
  case round =>
    obtain ⟨i, vf, l2, hi, hgk, rfl, HO, HL2, HB⟩ := hrel
    have C1 := Lib.hid (((HB.out.cell (p := ⟨w.heap.size, 1, none⟩) (by show w.heap.size < _; omega))).trans C1.out)
    have k1 := C1.out
    have lk := cell_lt' k1
    have HLE := Lib.hid (show l2.length = i by have := congrArg List.length HL2.out; rw [List.length_map, List.length_take, HFL.out] at this; omega)
    by_cases hlt : i < nl
    case neg =>
      have q : decide ((i : Int) < (nl : Int)) = false := decide_eq_false (by omega)
      obtain ⟨V, cv, hvf⟩ := own_form HO.out.row
      subst hvf
      have HP := Lib.hid (show (⟨⟨p.arrays, l2.map (·.fn), p.main⟩, .slice A p.arrays.length ca, .slice V l2.length cv, l2⟩ : PrG).p = p by
        rw [HL2.out, List.take_of_length_le (by rw [HFL.out]; omega)])
      have b0 := HO.out.blk.cell 0; have b1 := HO.out.blk.cell 1; have b2 := HO.out.blk.cell 2
      have lb := HO.out.blk.lt
      have hbk : Blk wr (w.heap.size + 1) 30 #[.slice none 0 0, .slice none 0 0, .int .i64 0] := (HB.out.block (w.heap.size + 1) (by omega)).trans HBK2.out
      have f0 := hbk.free 0; have f1 := hbk.free 1; have f2 := hbk.free 2
      have d0 := hbk.cell 0; have d1 := hbk.cell 1; have d2 := hbk.cell 2
      have hwr : Below w.heap.size w wr := HB1.out.trans (HB.out.mono (by omega))
      have HWR := Lib.hid hwr
      clear hwr
      go_wp2_with fail
      have hbkF : Blk (((wr.setCell ⟨w.heap.size + 1, 0, none⟩ (.slice A p.arrays.length ca)).setCell ⟨w.heap.size + 1, 1, none⟩ (.slice V l2.length cv)).setCell ⟨w.heap.size + 1, 2, none⟩ (.int .i64 p.main)) (w.heap.size + 1) 30 #[.slice A p.arrays.length ca, .slice V l2.length cv, .int .i64 p.main] := ((hbk.put 0 _).put 1 _).put 2 _
      refine bodyPost_ret (results_cell_row rfl _ _ (w.heap.size + 1) 30 #[.slice A p.arrays.length ca, .slice V l2.length cv, .int .i64 p.main] (0, 0) _ rfl hbkF Tryz.underlying30 rfl (by kernel_rfl)) rfl ?_
      have hfin := ((HWR.out.setCell (p := ⟨w.heap.size + 1, 0, none⟩) (by show w.heap.size ≤ w.heap.size + 1; omega) (.slice A p.arrays.length ca)).setCell (p := ⟨w.heap.size + 1, 1, none⟩) (by show w.heap.size ≤ w.heap.size + 1; omega) (.slice V l2.length cv)).setCell (p := ⟨w.heap.size + 1, 2, none⟩) (by show w.heap.size ≤ w.heap.size + 1; omega) (.int .i64 p.main)
      exact ⟨⟨⟨p.arrays, l2.map (·.fn), p.main⟩, _, _, l2⟩, rfl, (((HO.out.set (by omega) _).set (by omega) _).set (by omega) _).pr hfin HARR.out, HP.out, hfin⟩
    case pos =>
      have q : decide ((i : Int) < (nl : Int)) = true := decide_eq_true (by omega)
      obtain ⟨x, hx⟩ : ∃ x, l[i]? = some x := ⟨_, List.getElem?_eq_getElem (by rw [← HNL.out]; exact hlt)⟩
      have hpx : p.fns[i]? = some x.fn := by rw [← HGE.out, List.getElem?_map, hx]; rfl
      have hwr : Below w.heap.size w wr := HB1.out.trans (HB.out.mono (by omega))
      obtain ⟨fb, fo, hFe, hxf⟩ : ∃ b o, F = some ⟨b, o, none⟩ ∧ fnAt w b (o + i * 4) x := by
        rcases HFR.out with e | ⟨b, o, e, k⟩
        · rw [e] at hx; simp at hx
        · exact ⟨b, o, e, k i x hx⟩
      subst hFe
      have HX0 := Lib.hid hxf
      have HX := Lib.hid (hxf.below hwr)
      have HII := Lib.hid (show (i : Int) < (nl : Int) by omega)
      have HPX := Lib.hid hpx; have HWR := Lib.hid hwr
      have HLB := Lib.hid (cell_lt' hxf.c0)
      clear hx hpx hxf hwr
      go_upto_region 5 with fail
      refine wp_region_float [some (none, .pointer (some ⟨w.heap.size, 1, none⟩)), some (none, .slice (some ⟨fb, fo, none⟩) nl cf), some (none, .int .i64 (i : Int)), some (none, .pointer (some ⟨fb, fo + i * 4, none⟩)), some (none, .pointer (some ⟨fb, fo + i * 4, none⟩)), some (none, .string ⟨x.fn.name.toArray⟩), some (none, .pointer (some ⟨w.heap.size, 1, none⟩)), some (none, .slice (some ⟨fb, fo, none⟩) nl cf), some (none, .int .i64 (i : Int)), some (none, .pointer (some ⟨fb, fo + i * 4, none⟩)), some (none, .pointer (some ⟨fb, fo + i * 4 + 1, none⟩)), some (none, .int .i64 x.fn.params), some (none, .pointer (some ⟨w.heap.size, 1, none⟩)), some (none, .slice (some ⟨fb, fo, none⟩) nl cf), some (none, .int .i64 (i : Int)), some (none, .pointer (some ⟨fb, fo + i * 4, none⟩)), some (none, .pointer (some ⟨fb, fo + i * 4 + 2, none⟩)), some (none, .int .i64 x.fn.vars), some (none, .agg #[.string ⟨x.fn.name.toArray⟩, .int .i64 x.fn.params, .int .i64 x.fn.vars, .slice none 0 0]), none, none] (fun W => Below wr.heap.size wr W) 2 mixed (fun _ a a2 _ hd h => by cases a; cases a2; cases hd; exact h) (by kernel_rfl) (fun _ _ h => h) ?_
      intro FF AA Wd hA hF hWh hWd
      have hL : HasL FF [(1, .pointer (some ⟨w.heap.size, 0, none⟩)), (4, .int .i64 (i : Int)), (20, .pointer (some ⟨w.heap.size, 1, none⟩)), (21, .slice (some ⟨fb, fo, none⟩) nl cf), (22, .int .i64 (i : Int)), (23, .pointer (some ⟨fb, fo + i * 4, none⟩)), (24, .pointer (some ⟨fb, fo + i * 4, none⟩)), (25, .string ⟨x.fn.name.toArray⟩), (26, .pointer (some ⟨w.heap.size, 1, none⟩)), (27, .slice (some ⟨fb, fo, none⟩) nl cf), (28, .int .i64 (i : Int)), (29, .pointer (some ⟨fb, fo + i * 4, none⟩)), (30, .pointer (some ⟨fb, fo + i * 4 + 1, none⟩)), (31, .int .i64 x.fn.params), (32, .pointer (some ⟨w.heap.size, 1, none⟩)), (33, .slice (some ⟨fb, fo, none⟩) nl cf), (34, .int .i64 (i : Int)), (35, .pointer (some ⟨fb, fo + i * 4, none⟩)), (36, .pointer (some ⟨fb, fo + i * 4 + 2, none⟩)), (37, .int .i64 x.fn.vars), (38, .agg #[.string ⟨x.fn.name.toArray⟩, .int .i64 x.fn.params, .int .i64 x.fn.vars, .slice none 0 0])] := by unfold HasL; rw [hF, hA]; kernel_rfl
      have HF := Lib.hid hF; clear hF; have HA := Lib.hid hA; clear hA
      refine ⟨?_, ?_⟩
      · intro Z hZ
        repeat clear ‹∀ (a : Act) (w : World), Code.wp Tryz.prog _ _ a w → _›
        have gff := gd_ff
        have gtt := gd_tt
        have hi0 := HII.out
        have lb0 := HLB.out
        exact
        ResF.cons (FlRes.val (by have a1 := hL.at 0 rfl; go_simp)) (
        ResF.cons (FlRes.val (by have a20 := hL.at 2 rfl; have kk := get_b hZ C1.out; go_simp)) (
        ResF.cons (FlRes.val (by have a4 := hL.at 1 rfl; go_simp)) (
        ResF.cons (FlRes.val (by have a21 := hL.at 3 rfl; have a22 := hL.at 4 rfl; go_simp)) (
        ResF.cons (FlRes.val (by have a23 := hL.at 5 rfl; go_simp)) (
        ResF.cons (FlRes.val (by have a24 := hL.at 6 rfl; have kk := get_b hZ HX.out.c0; go_simp)) (
        ResF.cons (FlRes.val (by have a1 := hL.at 0 rfl; go_simp)) (
        ResF.cons (FlRes.val (by have a26 := hL.at 8 rfl; have kk := get_b hZ C1.out; go_simp)) (
        ResF.cons (FlRes.val (by have a4 := hL.at 1 rfl; go_simp)) (
        ResF.cons (FlRes.val (by have a27 := hL.at 9 rfl; have a28 := hL.at 10 rfl; go_simp)) (
        ResF.cons (FlRes.val (by have a29 := hL.at 11 rfl; go_simp)) (
        ResF.cons (FlRes.val (by have a30 := hL.at 12 rfl; have kk := get_b hZ HX.out.c1; go_simp)) (
        ResF.cons (FlRes.val (by have a1 := hL.at 0 rfl; go_simp)) (
        ResF.cons (FlRes.val (by have a32 := hL.at 14 rfl; have kk := get_b hZ C1.out; go_simp)) (
        ResF.cons (FlRes.val (by have a4 := hL.at 1 rfl; go_simp)) (
        ResF.cons (FlRes.val (by have a33 := hL.at 15 rfl; have a34 := hL.at 16 rfl; go_simp)) (
        ResF.cons (FlRes.val (by have a35 := hL.at 17 rfl; go_simp)) (
        ResF.cons (FlRes.val (by have a36 := hL.at 18 rfl; have kk := get_b hZ HX.out.c2; go_simp)) (
        ResF.cons (FlRes.val (by have a25 := hL.at 7 rfl; have a31 := hL.at 13 rfl; have a37 := hL.at 19 rfl; go_simp)) (
        ResF.pass (
        ResF.pass (
        ResF.nil)))))))))))))))))))))
      clear hL
      obtain ⟨gf, hFF⟩ : ∃ gf : Nat → Value, FF = putL [(20, gf 20), (21, gf 21), (22, gf 22), (23, gf 23), (24, gf 24), (25, gf 25), (26, gf 26), (27, gf 27), (28, gf 28), (29, gf 29), (30, gf 30), (31, gf 31), (32, gf 32), (33, gf 33), (34, gf 34), (35, gf 35), (36, gf 36), (37, gf 37), (38, .agg #[.string ⟨x.fn.name.toArray⟩, .int .i64 x.fn.params, .int .i64 x.fn.vars, .slice none 0 0])] AA := ⟨fun k => FF.tmps.getD k undef, by rw [HF.out, HA.out]; kernel_rfl⟩
      clear HF
      rw [HA.out] at hFF; clear HA
      simp only [putL, Act.put, List.setIfInBounds_toArray, List.set_cons_zero, List.set_cons_succ] at hFF
      subst hFF
      refine wpAnyS_one 19 rfl (by kernel_rfl) (fun KK hK => ?_)
      go_simp
      refine hK.out _ _ (Or.inl (hWd.alloc hWd.size _)) ?_
      clear hK
      refine wpAnyS_one 20 rfl (by kernel_rfl) (fun KK hK => ?_)
      go_simp
      refine hK.out _ _ (Or.inl (hWd.alloc hWd.size _)) ?_
      clear hK
      refine wpAnyS_end (by kernel_rfl) ?_
      have hbd := hWd.alloc hWd.size (.cells #[.string ⟨x.fn.name.toArray⟩, .int .i64 x.fn.params, .int .i64 x.fn.vars, .slice none 0 0] 63)
      have hbk := Blk.new Wd 63 #[.string ⟨x.fn.name.toArray⟩, .int .i64 x.fn.params, .int .i64 x.fn.vars, .slice none 0 0]
      rw [hWh] at hbk
      obtain ⟨W2, hW2⟩ : ∃ W2, W2 = Wd.alloc (.cells #[.string ⟨x.fn.name.toArray⟩, .int .i64 x.fn.params, .int .i64 x.fn.vars, .slice none 0 0] 63) := ⟨_, rfl⟩
      obtain ⟨bt, hbt⟩ : ∃ b, b = wr.heap.size := ⟨_, rfl⟩
      have hbt3 : w.heap.size + 3 ≤ bt := by have := HB.out.size; have := HS1.out; omega
      have hos := HO.out.below hbd
      have hcb : ∀ y ∈ l2, ∀ k, y.cv.ownBlock = some k → k < bt := fun y hy k hk => by rw [hbt]; exact ((HO.out.code y hy).row.lt k hk).2
      have hw2 := HWR.out.trans (hbd.mono HWR.out.size)
      have hb2 := HB.out.trans (hbd.mono (by have := HB.out.size; have := HS1.out; omega))
      have hk1 := get_b hbd C1.out
      rw [← hW2] at hbd hbk hos hw2 hb2 hk1 ⊢
      rw [← hbt] at hbk hbd ⊢
      have HBD := Lib.hid hbd; have HBK := Lib.hid hbk; have HOS2 := Lib.hid hos; have HW2 := Lib.hid hw2; have HB2 := Lib.hid hb2; have HK1 := Lib.hid hk1; have HBT := Lib.hid hbt3
      have hlt2 : bt < W2.heap.size := hbk.lt
      have HLT2 := Lib.hid hlt2
      obtain ⟨WO, hWO⟩ : ∃ W, W = wr := ⟨_, rfl⟩
      have hoo := HO.out; have hbo := HBD.out; have hbe := hbt
      rw [← hWO] at hoo hbo hbe
      have HOO := Lib.hid hoo; have HBO := Lib.hid (show Below WO.heap.size WO W2 by rw [← hbe]; exact hbo); have HBE := Lib.hid hbe
      obtain ⟨VF, cvf, hvf⟩ := own_form hoo.row
      subst hvf
      clear hWh hWd hbt hW2 hbd hbk hos hw2 hb2 hk1 hbt3 hcb lk k1 hlt2 HO HB HX HWR hoo hbo hbe HBD HOS2
      clear C1 hWO
      obtain ⟨C, cc, hcv, _, hci⟩ := HX0.out.code
      obtain ⟨nc, hnc⟩ : ∃ n, n = x.l.length := ⟨_, rfl⟩
      have hnc1 : nc ≤ 1000000 := by rw [hnc, ← List.length_map (f := (·.1)), HX0.out.eq]; exact (TG.out.fn _ (List.mem_of_getElem? HPX.out)).len
      have x3 := HX0.out.c3
      rw [hcv, ← hnc] at x3
      have X3 := Lib.hid x3; have HCI := Lib.hid hci; have HNC := Lib.hid hnc
      clear hci hnc x3 hcv
      obtain ⟨ko, rfl⟩ : ∃ ko, gk = ko + 1 := ⟨gk - 1, by omega⟩
      go_wp2_with fail
      go_loopg [6] nc (fun gk v wr => ∃ (j : Nat) (vc : Value), j ≤ nc ∧ nc - j ≤ gk ∧ v = .int .i64 j ∧ Hid (Blk wr bt 63 #[.string ⟨x.fn.name.toArray⟩, .int .i64 x.fn.params, .int .i64 x.fn.vars, vc]) ∧ Hid (wr.ownsRow (bt + 1) 75 10 vc j ((x.l.take j).flatMap insC1)) ∧ Hid (Below bt W2 wr))
      case atStart => exact ⟨0, _, Nat.zero_le _, Nat.le_refl _, rfl, HBK, Lib.hid ⟨by simp, Or.inl ⟨rfl, rfl⟩⟩, Lib.hid (Below.refl _ _)⟩
      case round =>
        obtain ⟨j, vc, hj, hgk2, rfl, HK, HR, HJ⟩ := hrel
        have hwj : Below w.heap.size w wr := HW2.out.trans (HJ.out.mono (by have := HBT.out; omega))
        have k1 := (HJ.out.cell (p := ⟨w.heap.size, 1, none⟩) (by show w.heap.size < _; have := HBT.out; omega)).trans HK1.out
        have k3 := get_b hwj X3.out
        have lk := cell_lt' k1
        have lb := cell_lt' k3
        have hii := HII.out
        by_cases hlt2 : j < nc
        case neg =>
          have q2 : decide ((j : Int) < (nc : Int)) = false := decide_eq_false (by omega)
          have hje : j = nc := by omega
          have hro : wr.ownsRow (bt + 1) 75 10 vc x.l.length (x.l.flatMap insC1) := by
            have := HR.out
            rw [List.take_of_length_le (by rw [← HNC.out]; omega), hje] at this
            rw [← HNC.out]; exact this
          have hos := HOO.out.below (HBO.out.trans (by have := HJ.out; rw [HBE.out] at this; exact this))
          have hbb := HBT.out
          have hco : CodeOwn w wr (w.heap.size + 2 + 1) ⟨x.fn, vc, x.l⟩ := ⟨own_lower hro (by omega), HX0.out.eq, ins_args HX0.out.code⟩
          obtain ⟨V, cv, hvc⟩ := own_form HR.out
          rw [hje] at hvc
          clear hje
          subst hvc
          have HOS3 := Lib.hid hos; have HCO := Lib.hid hco
          have g0 := HK.out.cell 0; have g1 := HK.out.cell 1; have g2 := HK.out.cell 2; have g3 := HK.out.cell 3
          have lg := HK.out.lt
          have bb1 := hos.blk.cell 1
          have lB := hos.blk.lt
          have HJW := Lib.hid hwj
          have l2b : l2.length ≤ 1000000 := by have := HNLB.out; have := HLE.out; omega
          obtain ⟨i0, hi0, hz0, hz1, hz2⟩ := info_parts info63
          clear hro hos hco hwj
          go_wp2_with (at_builtin; refine wpList_append_own _ rfl _ _ 28 rfl (w.heap.size + 2 + 1) 63 i0 (.agg #[.string ⟨#[]⟩, .int .i64 0, .int .i64 0, .slice none 0 0]) 4 56 Tryz.underlying28 hi0 hz0 hz1 hz2 rfl (by decide) _ _ _ rfl (HOS3.out.row.alloc _) ⟨wr.heap.size, 0, none⟩ 1 1 [.string ⟨x.fn.name.toArray⟩, .int .i64 x.fn.params, .int .i64 x.fn.vars, .slice V nc cv] rfl rfl (World.news_of_block (cs := #[.string ⟨x.fn.name.toArray⟩, .int .i64 x.fn.params, .int .i64 x.fn.vars, .slice V nc cv]) (t := 63) (fr := (0, 0)) (heap_alloc_new wr _)) (by simp [Value.oneCell']) (by unfold maxLen; omega) (by omega) ?_ ?_)
          · have := HOS3.out.blk.lt; simp; omega
          intro v6 w6 hown6 hgrow _
          have hrr := OS.next (x := ⟨x.fn, .slice V nc cv, x.l⟩) (HOS3.out.below ((Below.refl _ _).alloc (Nat.le_refl _) _)) ⟨own_below HCO.out.row ((Below.refl _ _).alloc (Nat.le_refl _) _), HCO.out.eq, HCO.out.args⟩ hgrow hown6
          obtain ⟨V6, c6, hv6⟩ := own_form hown6
          subst hv6
          have hbk6 : Blk w6 (w.heap.size + 2) 30 #[.slice A p.arrays.length ca, .slice VF l2.length cvf, .int .i64 p.main] := (hgrow.block (w.heap.size + 2) (by have := HOS3.out.blk.lt; simp; omega) (fun e => by have := (HOS3.out.row.lt _ e.symm).1; omega)).trans (HOS3.out.blk.alloc _)
          have f1 := hbk6.free 1; have d1 := hbk6.cell 1; have lt6 := hbk6.lt
          have HNX := Lib.hid hrr
          have hfin := ((((HB2.out.trans (HJ.out.mono (by have := HBT.out; omega))).alloc (by have := HBT.out; omega) (.cells #[.string ⟨x.fn.name.toArray⟩, .int .i64 x.fn.params, .int .i64 x.fn.vars, .slice V nc cv] 63)).grown hgrow (by have := HBT.out; simp; omega) (fun q e => by have := (HOS3.out.row.lt q e).1; omega)).setCell (p := ⟨w.heap.size + 2, 1, none⟩) (Nat.le_refl _) (.slice V6 (l2.length + 1) c6))
          have HFN := Lib.hid hfin
          have hl2 : ((l2 ++ [(⟨x.fn, .slice V nc cv, x.l⟩ : FnG)]).map (·.fn)) = p.fns.take (i + 1) := by rw [List.map_append, HL2.out, List.take_add_one, HPX.out]; rfl
          have HLL := Lib.hid hl2
          have hnlb := HNLB.out
          clear hrr hbk6 hfin hl2 hown6 hgrow
          go_upto_region 4 with fail
          obtain ⟨W7, hW7⟩ : ∃ W7, W7 = w6.setCell ⟨w.heap.size + 2, 1, none⟩ (.slice V6 (l2.length + 1) c6) := ⟨_, rfl⟩
          have hnx := HNX.out; have hfn := HFN.out
          rw [← hW7] at hnx hfn ⊢
          have HNX := Lib.hid hnx; have HFN := Lib.hid hfn
          clear hnx hfn hW7
          go_wp2_with fail
          go_roundg ko
          case measure => omega
          case rel => exact ⟨i + 1, _, _, by omega, by omega, by simp, HNX, HLL, HFN⟩
        case pos =>
          have q2 : decide ((j : Int) < (nc : Int)) = true := decide_eq_true (by omega)
          obtain ⟨y, hy⟩ : ∃ y, x.l[j]? = some y := ⟨_, List.getElem?_eq_getElem (by rw [← HNC.out]; exact hlt2)⟩
          obtain ⟨cb, co, hCe, hyf⟩ : ∃ b o, C = some ⟨b, o, none⟩ ∧ insAt w b (o + j * 10) y := by
            rcases HCI.out with e | ⟨b, o, e, k⟩
            · rw [e] at hy; simp at hy
            · exact ⟨b, o, e, k j y hy⟩
          subst hCe
          obtain ⟨y0, y1, y2, y3, y4, y5, y6, y7, y8, y9, hya⟩ := hyf.below hwj
          have lb2 := cell_lt' y0
          have hjj : (j : Int) < (nc : Int) := by omega
          obtain ⟨Y, cy, hyv, _, _⟩ := hya
          obtain ⟨ny, hny⟩ : ∃ n, n = y.1.args.length := ⟨_, rfl⟩
          rw [← hny] at hyv
          rw [hyv] at y6
          obtain ⟨V, cv, hvc⟩ := own_form HR.out
          subst hvc
          have HSN := Lib.hid (show (x.l.take (j + 1)).flatMap insC1 = (x.l.take j).flatMap insC1 ++ [.int .u8 y.1.op, .int .i64 y.1.v, .int .i64 y.1.a, .int .i64 y.1.b, .int .i64 y.1.n, .int .u8 y.1.bin, .slice Y ny cy, .int .i64 y.1.f, .int .i64 y.1.arr, .int .i64 y.1.to] by
            rw [List.take_add_one, hy, ← hyv]
            simp [insC1])
          have HWJ := Lib.hid hwj
          have hbk := HK.out
          have hsz : bt < wr.heap.size := hbk.lt
          have HSZ := Lib.hid hsz
          have t3 := hbk.cell 3
          obtain ⟨i0, hi0, hz0, hz1, hz2⟩ := info_parts info75
          clear hy hyf hyv hny hwj hbk
          go_wp2_with (at_builtin; refine wpList_append_own _ rfl _ _ 61 rfl (bt + 1) 75 i0 (.agg #[.int .u8 0, .int .i64 0, .int .i64 0, .int .i64 0, .int .i64 0, .int .u8 0, .slice none 0 0, .int .i64 0, .int .i64 0, .int .i64 0]) 10 96 Tryz.underlying61 hi0 hz0 hz1 hz2 rfl (by decide) _ _ _ rfl ((HR.out.alloc _).alloc _) ⟨wr.heap.size + 1, 0, none⟩ 1 1 [.int .u8 y.1.op, .int .i64 y.1.v, .int .i64 y.1.a, .int .i64 y.1.b, .int .i64 y.1.n, .int .u8 y.1.bin, .slice Y ny cy, .int .i64 y.1.f, .int .i64 y.1.arr, .int .i64 y.1.to] rfl rfl (World.news_of_block (cs := #[.int .u8 y.1.op, .int .i64 y.1.v, .int .i64 y.1.a, .int .i64 y.1.b, .int .i64 y.1.n, .int .u8 y.1.bin, .slice Y ny cy, .int .i64 y.1.f, .int .i64 y.1.arr, .int .i64 y.1.to]) (t := 75) (fr := (0, 0)) (heap_new_at (wr.alloc _) _ (by simp))) (by simp [Value.oneCell']) (by unfold maxLen; omega) (by omega) ?_ ?_)
          · have := HSZ.out; simp; omega
          intro v6 w6 hown6 hgrow _
          obtain ⟨V6, c6, hv6⟩ := own_form hown6
          subst hv6
          have hbk6 : Blk w6 bt 63 #[.string ⟨x.fn.name.toArray⟩, .int .i64 x.fn.params, .int .i64 x.fn.vars, .slice V j cv] := (hgrow.block bt (by simp; omega) (fun e => by have := (HR.out.lt bt e.symm).1; omega)).trans ((HK.out.alloc _).alloc _)
          have f3 := hbk6.free 3; have d3 := hbk6.cell 3; have lt6 := hbk6.lt
          have HBF := Lib.hid (hbk6.put 3 (.slice V6 (j + 1) c6))
          have hfin := ((((HJ.out.alloc (by omega) (.cells #[.int .u8 y.1.op, .int .i64 y.1.v, .int .i64 y.1.a, .int .i64 y.1.b, .int .i64 y.1.n, .int .u8 y.1.bin, .slice Y ny cy, .int .i64 y.1.f, .int .i64 y.1.arr, .int .i64 y.1.to] 71)).alloc (by simp; omega) (.cells #[.int .u8 y.1.op, .int .i64 y.1.v, .int .i64 y.1.a, .int .i64 y.1.b, .int .i64 y.1.n, .int .u8 y.1.bin, .slice Y ny cy, .int .i64 y.1.f, .int .i64 y.1.arr, .int .i64 y.1.to] 75)).grown hgrow (by simp; omega) (fun q e => by have := (HR.out.lt q e).1; omega)).setCell (p := ⟨bt, 3, none⟩) (Nat.le_refl _) (.slice V6 (j + 1) c6))
          have HFN := Lib.hid hfin
          have HOF := Lib.hid (own_set hown6 (b := bt) (o := 3) (by omega) (.slice V6 (j + 1) c6))
          clear hbk6 hfin hown6 hgrow
          go_upto_region 8 with fail
          obtain ⟨W7, hW7⟩ : ∃ W7, W7 = w6.setCell ⟨bt, 3, none⟩ (.slice V6 (j + 1) c6) := ⟨_, rfl⟩
          have h1 := HBF.out; have h2 := HFN.out; have h3 := HOF.out
          rw [← hW7] at h1 h2 h3 ⊢
          rw [← HSN.out] at h3
          have HBF := Lib.hid h1; have HFN := Lib.hid h2; have HOF := Lib.hid h3
          clear h1 h2 h3 hW7
          go_wp2_with fail
          cases gk with
          | zero => omega
          | succ gk =>
            go_roundg gk
            case measure => omega
            case rel => exact ⟨j + 1, _, by omega, by omega, by simp, HBF, HOF, HFN⟩
end Go.Proofs.YtgdibfnpkcdiiaaGreatDoor

/- The law ThreeRight over any program made by hand. By an AI agent. -/
namespace Go.Proofs.YtgdibfnpkcdiiaaGreatDoor
open Go.RowKit

theorem few_fns : ∀ (l : List FnP) (n : Nat), fewGo n l = true → ∀ f ∈ l, fewIns f.code = true ∧ f.code.length ≤ 300
  | [], _, _, _, h => by simp at h
  | f :: l, n, h, g, hg => by
    simp only [fewGo, Bool.and_eq_true, decide_eq_true_eq] at h
    obtain ⟨⟨⟨h1, h2⟩, h3⟩, h4⟩ := h
    rcases List.mem_cons.1 hg with rfl | hg
    · exact ⟨h3, by omega⟩
    · exact few_fns l _ h4 g hg
theorem sides {p : PrW} (ok : PrOk p) (hf : fewW p = true) : PrS p ∧ PrT p ∧ (textW p).length ≤ 1000000 := by
  have ht := text_len ok hf
  simp only [fewW, Bool.and_eq_true, decide_eq_true_eq] at hf
  obtain ⟨⟨h1, h2⟩, h3⟩ := hf
  have hc := few_fns p.fns 0 h3
  refine ⟨⟨by omega, by omega, fun f hf => by have := (hc f hf).2; omega, fun f hf x hx => by have := fewIns_mem (hc f hf).1 x hx; omega, fun f hf x hx => ((ok.fns f hf).code x hx).op⟩, ⟨by omega, by omega, fun f hf => ⟨ok.fns f hf, by have := (hc f hf).2; omega, fun x hx => by have := fewIns_mem (hc f hf).1 x hx; omega⟩⟩, by omega⟩

set_option maxRecDepth 100000 in
set_option maxHeartbeats 16000000 in
theorem threeRight_any (g : PrG) (w : World) (hg : PrR w g) (ok : PrOk g.p) (tab : TabW w) (h0 : 0 < w.heap.size) :
    Calls Tryz.prog 3 #[prV g] w fun e w' => e = .returned (.bool true) ∧ Below w.heap.size w w' := by
  obtain ⟨p, av, fv, l⟩ := g
  have HG := Lib.hid hg
  obtain ⟨⟨A, ca, hav, _, _⟩, ⟨F, cf, hfv, _, _⟩, _⟩ := hg
  dsimp only at hav hfv ok
  subst hav; subst hfv
  have hfw := fun W (hW : Below w.heap.size w W) => few_any _ W (HG.out.below hW)
  have hpl := fun tg W (hW : Below w.heap.size w W) => plain_any _ W (HG.out.below hW) tg
  have hcr := fun ts W (hW : Below w.heap.size w W) => right_any _ W (HG.out.below hW) ts
  have hct := fun tg hl W (hW : Below w.heap.size w W) => text_any _ W (HG.out.below hW) tg hl (tab_keep tab hW h0) (Nat.lt_of_lt_of_le h0 hW.size)
  have hcs := fun tg W (hW : Below w.heap.size w W) => same_any _ _ W (HG.out.below hW) (HG.out.below hW) tg tg
  obtain ⟨nl, hnl⟩ : ∃ n, n = l.length := ⟨_, rfl⟩
  unfold prV at hfw hpl hcr hct hcs ⊢
  dsimp only at hfw hpl hcr hct hcs ⊢
  rw [← hnl] at hfw hpl hcr hct hcs ⊢
  have HFW := Lib.hid hfw; have HPL := Lib.hid hpl; have HCR := Lib.hid hcr; have HCT := Lib.hid hct; have HCS := Lib.hid hcs; have OK := Lib.hid ok
  clear hfw hpl hcr hct hcs ok hnl
  go_enter Tryz.func3, Tryz.ntmps3
  go_upto_region 1 with fail
  have hb1 : Below w.heap.size w (w.alloc (.cells #[.slice A p.arrays.length ca, .slice F nl cf, .int .i64 p.main] 25)) := (Below.refl _ _).alloc (Nat.le_refl _) _
  have hbk := Blk.new w 25 #[.slice A p.arrays.length ca, .slice F nl cf, .int .i64 p.main]
  obtain ⟨W1, hW1⟩ : ∃ W1, W1 = w.alloc (.cells #[.slice A p.arrays.length ca, .slice F nl cf, .int .i64 p.main] 25) := ⟨_, rfl⟩
  rw [← hW1] at hb1 hbk ⊢
  clear hW1
  have HB1 := Lib.hid hb1
  have c0 := hbk.cell 0; have c1 := hbk.cell 1; have c2 := hbk.cell 2
  have lb := hbk.lt
  have HBK := Lib.hid hbk
  clear hb1 hbk
  go_wp2_with fail
  refine (HFW.out _ HB1.out).mono ?_
  rintro e w2 ⟨rfl, hb2⟩
  have HB2 := Lib.hid hb2
  clear hb2 c0 c1 c2 lb
  cases hf : fewW p with
  | false =>
    go_wp2_with fail
    refine (Ev.works_12_any _).mono ?_
    rintro e w3 ⟨rfl, hb3⟩
    have HF := Lib.hid (below_next (below_next HB1.out HB2.out) hb3)
    clear hb3
    go_wp2_with fail
    go_ret
    exact ⟨rfl, HF.out⟩
  | true =>
    obtain ⟨ts, tg, tl⟩ := sides OK.out hf
    have hbk := HBK.out.below HB2.out
    have c0 := hbk.cell 0; have c1 := hbk.cell 1; have c2 := hbk.cell 2
    have lb := hbk.lt
    have TS := Lib.hid ts; have TG := Lib.hid tg; have TL := Lib.hid tl; have HBK2 := Lib.hid hbk
    have HB02 := Lib.hid (below_next HB1.out HB2.out)
    clear hf ts tg tl hbk
    go_wp2_with fail
    refine (HPL.out TG.out _ HB02.out).mono ?_
    rintro e w3 ⟨g2, rfl, hp2, he2, hb3⟩
    obtain ⟨p2, av2, fv2, l2⟩ := g2
    dsimp only at he2
    subst he2
    have HG2 := Lib.hid hp2
    obtain ⟨⟨A2, ca2, hav2, _, _⟩, ⟨F2, cf2, hfv2, _, _⟩, _⟩ := hp2
    dsimp only at hav2 hfv2
    subst hav2; subst hfv2
    have hcrr := fun W (hW : Below w3.heap.size w3 W) => rright_any _ W (HG2.out.below hW) TS.out
    have hctt := fun W (hW : Below w3.heap.size w3 W) => rtext_any _ W (HG2.out.below hW) TG.out TL.out
    unfold prV at hcrr hctt
    dsimp only at hcrr hctt
    obtain ⟨nl2, hnl2⟩ : ∃ n, n = l2.length := ⟨_, rfl⟩
    rw [← hnl2] at hcrr hctt ⊢
    have HCRR := Lib.hid hcrr; have HCTT := Lib.hid hctt; have HB3 := Lib.hid hb3
    clear hcrr hctt hnl2 hb3 c0 c1 c2 lb
    go_upto_region 4 with fail
    have hb4 : Below w3.heap.size w3 (w3.alloc (.cells #[.slice A2 p2.arrays.length ca2, .slice F2 nl2 cf2, .int .i64 p2.main] 30)) := (Below.refl _ _).alloc (Nat.le_refl _) _
    have hbk := (HBK2.out.below HB3.out).below hb4
    have hbk2 := Blk.new w3 30 #[.slice A2 p2.arrays.length ca2, .slice F2 nl2 cf2, .int .i64 p2.main]
    obtain ⟨W4, hW4⟩ : ∃ W4, W4 = w3.alloc (.cells #[.slice A2 p2.arrays.length ca2, .slice F2 nl2 cf2, .int .i64 p2.main] 30) := ⟨_, rfl⟩
    rw [← hW4] at hb4 hbk hbk2 ⊢
    clear hW4
    have K0 := Lib.hid (hbk.cell 0); have K1 := Lib.hid (hbk.cell 1); have K2 := Lib.hid (hbk.cell 2)
    have L0 := Lib.hid (hbk2.cell 0); have L1 := Lib.hid (hbk2.cell 1); have L2 := Lib.hid (hbk2.cell 2)
    have hb34 := below_next HB3.out hb4
    have HB04 := Lib.hid (below_next HB02.out hb34)
    have HB34 := Lib.hid hb4
    obtain ⟨r, hr⟩ : ∃ b, b = rightW p2 := ⟨_, rfl⟩
    obtain ⟨tx, htx⟩ : ∃ b, b = textW p2 := ⟨_, rfl⟩
    have cr := fun W (hW : Below W4.heap.size W4 W) => HCR.out TS.out W (HB04.out.trans (hW.mono HB04.out.size))
    have crr := fun W (hW : Below W4.heap.size W4 W) => HCRR.out W (HB34.out.trans (hW.mono HB34.out.size))
    have ct := fun W (hW : Below W4.heap.size W4 W) => HCT.out TG.out TL.out W (HB04.out.trans (hW.mono HB04.out.size))
    have ctt := fun W (hW : Below W4.heap.size W4 W) => HCTT.out W (HB34.out.trans (hW.mono HB34.out.size))
    have cs := fun W (hW : Below W4.heap.size W4 W) => HCS.out TG.out W (HB04.out.trans (hW.mono HB04.out.size))
    rw [← hr] at cr crr
    rw [← htx] at ct ctt
    simp only [decide_true] at cs
    have CR := Lib.hid cr; have CRR := Lib.hid crr; have CT := Lib.hid ct; have CTT := Lib.hid ctt; have CS := Lib.hid cs
    have HRR := Lib.hid (show (r == r) = true by simp)
    clear cr crr ct ctt cs hr htx hb4 hbk hbk2 hb34 HPL HCR HCT HCS HCRR HCTT HFW HG HG2
    refine wp_region_valsA [(none, .agg #[.slice A p2.arrays.length ca, .slice F nl cf, .int .i64 p2.main]), (none, .bool r), (none, .agg #[.slice A2 p2.arrays.length ca2, .slice F2 nl2 cf2, .int .i64 p2.main]), (none, .bool r), (none, .bool true), (none, .bool true), (some (15, true), .agg #[.slice A p2.arrays.length ca, .slice F nl cf, .int .i64 p2.main]), (some (15, true), .string ⟨tx.toArray⟩), (some (15, true), .agg #[.slice A2 p2.arrays.length ca2, .slice F2 nl2 cf2, .int .i64 p2.main]), (some (15, true), .string ⟨tx.toArray⟩), (some (15, true), .bool true), (none, .bool true), (none, .bool true), (some (22, true), .agg #[.slice A p2.arrays.length ca, .slice F nl cf, .int .i64 p2.main]), (some (22, true), .agg #[.slice A p2.arrays.length ca, .slice F nl cf, .int .i64 p2.main]), (some (22, true), .bool true), (none, .bool true), (none, .bool true), (some (27, true), .bool true), (none, .bool true), (none, .bool true)] mixed (by kernel_rfl) ?_
    intro FF AA hA hF
    have hL : HasL FF [(1, .pointer (some ⟨w.heap.size, 0, none⟩)), (3, .pointer (some ⟨w3.heap.size, 0, none⟩)), (10, .agg #[.slice A p2.arrays.length ca, .slice F nl cf, .int .i64 p2.main]), (11, .bool r), (12, .agg #[.slice A2 p2.arrays.length ca2, .slice F2 nl2 cf2, .int .i64 p2.main]), (13, .bool r), (14, .bool true), (15, .bool true), (16, .agg #[.slice A p2.arrays.length ca, .slice F nl cf, .int .i64 p2.main]), (17, .string ⟨tx.toArray⟩), (18, .agg #[.slice A2 p2.arrays.length ca2, .slice F2 nl2 cf2, .int .i64 p2.main]), (19, .string ⟨tx.toArray⟩), (20, .bool true), (21, .bool true), (22, .bool true), (23, .agg #[.slice A p2.arrays.length ca, .slice F nl cf, .int .i64 p2.main]), (24, .agg #[.slice A p2.arrays.length ca, .slice F nl cf, .int .i64 p2.main]), (25, .bool true), (26, .bool true), (27, .bool true), (28, .bool true), (29, .bool true), (2, .bool true)] := by unfold HasL; rw [hF, hA]; kernel_rfl
    have HF := Lib.hid hF; clear hF; have HA := Lib.hid hA; clear hA
    refine ⟨?_, ?_⟩
    · intro W hW
      repeat clear ‹∀ (a : Act) (w : World), Code.wp Tryz.prog _ _ a w → _›
      have gff := gd_ff
      have gtt := gd_tt
      exact
      ResL.cons (OpRes.val (by have a1 := hL.at 0 rfl; have s0 := get_b hW K0.out; have s1 := get_b hW K1.out; have s2 := get_b hW K2.out; go_simp)) (
      ResL.cons (OpRes.call 14 #[.agg #[.slice A p2.arrays.length ca, .slice F nl cf, .int .i64 p2.main]] (by have a10 := hL.at 2 rfl; go_simp) (CR.out W hW)) (
      ResL.cons (OpRes.val (by have a3 := hL.at 1 rfl; have s0 := get_b hW L0.out; have s1 := get_b hW L1.out; have s2 := get_b hW L2.out; go_simp)) (
      ResL.cons (OpRes.call 15 #[.agg #[.slice A2 p2.arrays.length ca2, .slice F2 nl2 cf2, .int .i64 p2.main]] (by have a12 := hL.at 4 rfl; go_simp) (CRR.out W hW)) (
      ResL.cons (OpRes.to (v := .bool (r == r)) (by rw [HRR.out]) (OpRes.val (by have a11 := hL.at 3 rfl; have a13 := hL.at 5 rfl; go_simp))) (
      ResL.cons (OpRes.val (by have a14 := hL.at 6 rfl; go_simp)) (
      ResL.cons (OpRes.goval (hL.at 7 rfl) (by have a1 := hL.at 0 rfl; have s0 := get_b hW K0.out; have s1 := get_b hW K1.out; have s2 := get_b hW K2.out; go_simp)) (
      ResL.cons (OpRes.gocall 16 #[.agg #[.slice A p2.arrays.length ca, .slice F nl cf, .int .i64 p2.main]] (hL.at 7 rfl) (by have a16 := hL.at 8 rfl; go_simp) (CT.out W hW)) (
      ResL.cons (OpRes.goval (hL.at 7 rfl) (by have a3 := hL.at 1 rfl; have s0 := get_b hW L0.out; have s1 := get_b hW L1.out; have s2 := get_b hW L2.out; go_simp)) (
      ResL.cons (OpRes.gocall 17 #[.agg #[.slice A2 p2.arrays.length ca2, .slice F2 nl2 cf2, .int .i64 p2.main]] (hL.at 7 rfl) (by have a18 := hL.at 10 rfl; go_simp) (CTT.out W hW)) (
      ResL.cons (OpRes.goval (hL.at 7 rfl) (by have a17 := hL.at 9 rfl; have a19 := hL.at 11 rfl; go_simp)) (
      ResL.cons (OpRes.val (by have a15 := hL.at 7 rfl; have a20 := hL.at 12 rfl; go_simp)) (
      ResL.cons (OpRes.val (by have a21 := hL.at 13 rfl; go_simp)) (
      ResL.cons (OpRes.goval (hL.at 14 rfl) (by have a1 := hL.at 0 rfl; have s0 := get_b hW K0.out; have s1 := get_b hW K1.out; have s2 := get_b hW K2.out; go_simp)) (
      ResL.cons (OpRes.goval (hL.at 14 rfl) (by have a1 := hL.at 0 rfl; have s0 := get_b hW K0.out; have s1 := get_b hW K1.out; have s2 := get_b hW K2.out; go_simp)) (
      ResL.cons (OpRes.gocall 18 #[.agg #[.slice A p2.arrays.length ca, .slice F nl cf, .int .i64 p2.main], .agg #[.slice A p2.arrays.length ca, .slice F nl cf, .int .i64 p2.main]] (hL.at 14 rfl) (by have a23 := hL.at 15 rfl; have a24 := hL.at 16 rfl; go_simp) (CS.out W hW)) (
      ResL.cons (OpRes.val (by have a22 := hL.at 14 rfl; have a25 := hL.at 17 rfl; go_simp)) (
      ResL.cons (OpRes.val (by have a26 := hL.at 18 rfl; go_simp)) (
      ResL.cons (OpRes.gocall 12 #[] (hL.at 19 rfl) (by go_simp) (Ev.works_12_any W)) (
      ResL.cons (OpRes.val (by have a27 := hL.at 19 rfl; have a28 := hL.at 20 rfl; go_simp)) (
      ResL.cons (OpRes.val (by have a29 := hL.at 21 rfl; go_simp)) (
      ResL.nil)))))))))))))))))))))
    intro W hW
    clear hL
    obtain ⟨gg, hFF⟩ : ∃ gg : Nat → Value, FF = putL [(10, gg 10), (11, gg 11), (12, gg 12), (13, gg 13), (14, gg 14), (15, gg 15), (16, gg 16), (17, gg 17), (18, gg 18), (19, gg 19), (20, gg 20), (21, gg 21), (22, gg 22), (23, gg 23), (24, gg 24), (25, gg 25), (26, gg 26), (27, gg 27), (28, gg 28), (29, gg 29), (2, .bool true)] AA := ⟨fun k => FF.tmps.getD k undef, by rw [HF.out, HA.out]; kernel_rfl⟩
    clear HF
    rw [HA.out] at hFF; clear HA
    simp only [putL, Act.put, List.setIfInBounds_toArray, List.set_cons_zero, List.set_cons_succ] at hFF
    subst hFF
    refine wpList_nil ?_
    have HF := Lib.hid (HB04.out.trans (hW.mono HB04.out.size))
    clear hW
    go_wp2_with fail
    go_ret
    exact ⟨rfl, HF.out⟩
end Go.Proofs.YtgdibfnpkcdiiaaGreatDoor
