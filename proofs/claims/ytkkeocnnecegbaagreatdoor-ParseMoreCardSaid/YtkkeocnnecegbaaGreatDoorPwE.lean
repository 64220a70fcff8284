/- The walk over list. By an AI agent. -/
import Derived.Test.YtkkeocnnecegbaaGreatDoorPwD
import Derived.Deep.LoopGhost
namespace Go.Proofs.YtkkeocnnecegbaaGreatDoor
open Go.RowKit

abbrev Rd := Except PErr (Item × List Tok)
abbrev RdL := Except PErr (List Item × List Tok)
/-- One round of what list reads. -/
def listStep (M : List Tok → Rd) (S : Bool → List Item → List Tok → RdL) (first : Bool) (acc : List Item) (ts : List Tok) : RdL :=
  if isT [41] ts = true then .ok (acc, ts)
  else match (if first then .ok ts else takeT [44] ts) with
    | .error e => .error e
    | .ok ts1 => match M ts1 with
      | .error e => .error e
      | .ok (x, ts2) => S false (acc ++ [x]) ts2
theorem listStep_end {M : List Tok → Rd} {S : Bool → List Item → List Tok → RdL} {b : Bool} {acc : List Item} {ts : List Tok} (h : isT [41] ts = true) : listStep M S b acc ts = .ok (acc, ts) := by
  unfold listStep; rw [if_pos h]
theorem listStep_err {M : List Tok → Rd} {S : Bool → List Item → List Tok → RdL} {acc : List Item} {ts : List Tok} {e : PErr} (h : isT [41] ts = false) (h2 : takeT [44] ts = .error e) : listStep M S false acc ts = .error e := by
  unfold listStep; rw [if_neg (by rw [h]; simp), if_neg (by simp), h2]
theorem listStep_one {M : List Tok → Rd} {S : Bool → List Item → List Tok → RdL} {b : Bool} {acc : List Item} {ts ts1 : List Tok} (h : isT [41] ts = false) (h2 : (b = true ∧ ts1 = ts) ∨ (b = false ∧ takeT [44] ts = .ok ts1)) : listStep M S b acc ts = match M ts1 with
      | .error e => .error e
      | .ok (x, ts2) => S false (acc ++ [x]) ts2 := by
  unfold listStep; rw [if_neg (by rw [h]; simp)]
  rcases h2 with ⟨rfl, rfl⟩ | ⟨rfl, h2⟩
  · rw [if_pos rfl]
  · rw [if_neg (by simp), h2]
def listR (S : List Tok → RdL) (ts : List Tok) : RdL :=
  match takeT [40] ts with
  | .error e => .error e
  | .ok ts1 => match S ts1 with
    | .error e => .error e
    | .ok (l, ts2) => match takeT [41] ts2 with
      | .error e => .error e
      | .ok ts3 => .ok (l, ts3)

set_option maxRecDepth 100000 in
set_option maxHeartbeats 8000000 in
/-- list. -/
theorem list_any (B R d F f0 T : Nat) (cap : Array Value) (M : Nat → List Tok → Rd) (S : Nat → Bool → List Item → List Tok → RdL) (Q : List Item → World → Prop) (ts : List Tok) (w : World) (h : RD w R ts d) (hB : B ≤ w.heap.size) (hE : ∀ W, (callFunc F cap).run Tryz.prog W = .ok (.enter F cap) W)
    (hS0 : ∀ b acc ts, S 0 b acc ts = .error outE) (hS : ∀ f b acc ts, S (f + 1) b acc ts = listStep (M f) (S f) b acc ts)
    (hM : ∀ f ts x r, EndL ts → M f ts = .ok (x, r) → r.length < ts.length) (hT : ts.length ≤ T)
    (hQ0 : Q [] w) (hQ : ∀ l w1 w2, Q l w1 → KeepR w1.heap.size R w1 w2 → Q l w2)
    (hF : ∀ f ts1 w1 acc, f < f0 → M f ts1 ≠ .error outE → acc.length + ts1.length ≤ T → Q acc w1 → RD w1 R ts1 d → B ≤ w1.heap.size → Calls Tryz.prog F cap w1 (OutB B w1 R d (M f ts1) fun x v w' => v = .tuple #[] ∧ Q (acc ++ [x]) w'))
    (hne : listR (S f0 true []) ts ≠ .error outE) :
    Calls Tryz.prog 93 #[.pointer (some ⟨R, 0, none⟩), .func (.func F) #[] cap] w (OutB B w R d (listR (S f0 true []) ts) fun l v w' => v = .tuple #[] ∧ Q l w') := by
  have H := Lib.hid h; have HS0 := Lib.hid hS0; have HS := Lib.hid hS; have HM := Lib.hid hM; have HQ0 := Lib.hid hQ0; have HQ := Lib.hid hQ; have HF := Lib.hid hF; have HNE := Lib.hid hne; have HT := Lib.hid hT
  clear h hS0 hS hM hQ0 hQ hF hne hT
  obtain ⟨t, r, rfl⟩ := H.out.fin.cons
  cases hi : isT [40] (t :: r)
  · have HI := Lib.hid hi; clear hi
    go_enter Tryz.func93, Tryz.ntmps93
    go_wp2_with fail
    refine (take_no (x := [40]) H.out HI.out).mono ?_; rintro e w1 ⟨rfl, hb⟩
    go_wp2_with fail
    refine ⟨rfl, OutB.err ?_ (.of (hb.mono hB))⟩
    unfold listR takeT
    rw [HI.out]; rfl
  · have HI := Lib.hid hi; clear hi
    have htk : takeT [40] (t :: r) = .ok r := by unfold takeT; rw [HI.out, if_pos rfl]; rfl
    have HLR : Hid (∀ e, listR (S f0 true []) (t :: r) = e ↔ (match S f0 true [] r with | .error e => .error e | .ok (l, ts2) => match takeT [41] ts2 with | .error e => .error e | .ok ts3 => (.ok (l, ts3) : RdL)) = e) := Lib.hid (by intro e; unfold listR; rw [htk])
    have HTR : Hid (r.length ≤ T) := Lib.hid (by have := HT.out; simp only [List.length_cons] at this; omega)
    clear htk
    go_enter Tryz.func93, Tryz.ntmps93
    go_wp2_with fail
    refine (take_yes (x := [40]) H.out HI.out).mono ?_; rintro e w1 ⟨rfl, hr1, hk1⟩
    have HR1 := Lib.hid hr1; have HK1 := Lib.hid hk1
    have hs1 : B ≤ w1.heap.size := Nat.le_trans hB hk1.size
    clear hr1 hk1
    go_wp2_with fail
    go_loopg [4] f0 (fun g v wr => ∃ (first : Bool) (acc : List Item) (ts' : List Tok), v = .bool first ∧ Hid (RD wr R ts' d ∧ KeepR B R w wr ∧ B ≤ wr.heap.size ∧ g ≤ f0 ∧ acc.length + ts'.length ≤ T) ∧ Hid (Q acc wr) ∧ Hid (S g first acc ts' = S f0 true [] r))
    case atStart => exact ⟨true, [], r, rfl, Lib.hid ⟨HR1.out, HK1.out.mono hB, hs1, Nat.le_refl _, by have := HTR.out; simpa using this⟩, Lib.hid (HQ.out _ _ _ HQ0.out HK1.out), Lib.hid rfl⟩
    case round =>
      obtain ⟨first, acc, ts', rfl, HA, HQA, HG⟩ := hrel
      obtain ⟨t', r', rfl⟩ := HA.out.1.fin.cons
      cases gk with
      | zero =>
        exfalso
        have := HG.out
        rw [HS0.out] at this
        have h2 := (HLR.out (.error outE)).2 (by rw [← this])
        exact HNE.out h2
      | succ gk =>
        cases hi : isT [41] (t' :: r')
        · have HI' := Lib.hid hi; clear hi
          cases first with
          | true =>
            have HG2 : Hid ((match M gk (t' :: r') with
              | .error e => .error e
              | .ok (x, ts2) => S gk false (acc ++ [x]) ts2) = S f0 true [] r) := Lib.hid (by rw [← HG.out, HS.out, listStep_one HI'.out (Or.inl ⟨rfl, rfl⟩)])
            clear HG
            go_wp2_with fail
            refine (is_any R t' r' d [41] _ HA.out.1).mono ?_; rintro e w2 ⟨rfl, hb2⟩; rw [HI'.out]
            have HR2 := Lib.hid (HA.out.1.below hb2 HA.out.1.lt.1)
            have HQ2 := Lib.hid (HQ.out _ _ _ HQA.out (.of hb2))
            have hs2 : B ≤ w2.heap.size := Nat.le_trans HA.out.2.2.1 hb2.size
            have HK2 := Lib.hid (HA.out.2.1.below hb2 HA.out.2.2.1)
            clear hb2 HQA
            go_wp2_with fail
            refine (HF.out gk (t' :: r') _ acc (by have := HA.out.2.2.2.1; omega) (fun hm => HNE.out ((HLR.out _).2 (by rw [← HG2.out, hm]))) (by have := HA.out.2.2.2.2; simp only [List.length_cons] at this ⊢; omega) HQ2.out HR2.out hs2).mono ?_
            intro e w4 ho
            obtain ⟨hk4, ho⟩ := ho
            have HK4 := Lib.hid (HK2.out.trans hk4 (Nat.le_refl _))
            have hs4 : B ≤ w4.heap.size := Nat.le_trans hs2 hk4.size
            cases hMM : M gk (t' :: r') with
            | error q =>
              obtain ⟨p, er⟩ := q
              rw [hMM] at ho
              subst ho
              refine ⟨rfl, OutB.err ((HLR.out _).2 ?_) HK4.out⟩
              rw [← HG2.out, hMM]
            | ok q =>
              obtain ⟨x, ts2⟩ := q
              rw [hMM] at ho
              obtain ⟨hr4, v, rfl, rfl, hp⟩ := ho
              have HR4 := Lib.hid hr4
              have HP4 := Lib.hid hp
              have hlen := HM.out _ _ _ _ HR2.out.fin hMM
              have HLN := Lib.hid hlen
              have HG3 : Hid (S gk false (acc ++ [x]) ts2 = S f0 true [] r) := Lib.hid (by rw [← HG2.out, hMM])
              clear hr4 hp hk4 hMM hlen
              go_wp2_with fail
              go_roundg gk
              case measure => omega
              case rel => exact ⟨false, acc ++ [x], ts2, rfl, Lib.hid ⟨HR4.out, HK4.out, hs4, by have := HA.out.2.2.2.1; omega, by have := HA.out.2.2.2.2; have := HLN.out; simp only [List.length_cons, List.length_append, List.length_nil] at *; omega⟩, HP4, HG3⟩
          | false =>
            cases hc : isT [44] (t' :: r')
            · have HC := Lib.hid hc; clear hc
              go_wp2_with fail
              refine (is_any R t' r' d [41] _ HA.out.1).mono ?_; rintro e w2 ⟨rfl, hb2⟩; rw [HI'.out]
              have HR2 := Lib.hid (HA.out.1.below hb2 HA.out.1.lt.1)
              have HK2 := Lib.hid (HA.out.2.1.below hb2 HA.out.2.2.1)
              have hs2 : B ≤ w2.heap.size := Nat.le_trans HA.out.2.2.1 hb2.size
              clear hb2
              go_wp2_with fail
              refine (take_no (x := [44]) HR2.out HC.out).mono ?_; rintro e w3 ⟨rfl, hb3⟩
              go_wp2_with fail
              refine ⟨rfl, OutB.err ((HLR.out _).2 ?_) (HK2.out.below hb3 hs2)⟩
              rw [← HG.out, HS.out, listStep_err HI'.out (e := (t'.at', 140)) (by unfold takeT; rw [HC.out]; rfl)]
            · have HC := Lib.hid hc; clear hc
              have HG2 : Hid ((match M gk r' with
                | .error e => .error e
                | .ok (x, ts2) => S gk false (acc ++ [x]) ts2) = S f0 true [] r) := Lib.hid (by rw [← HG.out, HS.out, listStep_one (ts1 := r') HI'.out (Or.inr ⟨rfl, by unfold takeT; rw [HC.out, if_pos rfl]; rfl⟩)])
              clear HG
              go_wp2_with fail
              refine (is_any R t' r' d [41] _ HA.out.1).mono ?_; rintro e w2 ⟨rfl, hb2⟩; rw [HI'.out]
              have HR2 := Lib.hid (HA.out.1.below hb2 HA.out.1.lt.1)
              have HQ2 := Lib.hid (HQ.out _ _ _ HQA.out (.of hb2))
              have hs2 : B ≤ w2.heap.size := Nat.le_trans HA.out.2.2.1 hb2.size
              have HK2 := Lib.hid (HA.out.2.1.below hb2 HA.out.2.2.1)
              clear hb2 HQA
              go_wp2_with fail
              refine (take_yes (x := [44]) HR2.out HC.out).mono ?_; rintro e w3 ⟨rfl, hr3, hk3⟩
              have HR3 := Lib.hid hr3
              have HQ3 := Lib.hid (HQ.out _ _ _ HQ2.out hk3)
              have hs3 : B ≤ w3.heap.size := Nat.le_trans hs2 hk3.size
              have HK3 := Lib.hid (HK2.out.trans hk3 hs2)
              clear hr3 hk3
              go_wp2_with fail
              refine (HF.out gk r' _ acc (by have := HA.out.2.2.2.1; omega) (fun hm => HNE.out ((HLR.out _).2 (by rw [← HG2.out, hm]))) (by have := HA.out.2.2.2.2; simp only [List.length_cons] at this ⊢; omega) HQ3.out HR3.out hs3).mono ?_
              intro e w4 ho
              obtain ⟨hk4, ho⟩ := ho
              have HK4 := Lib.hid (HK3.out.trans hk4 (Nat.le_refl _))
              have hs4 : B ≤ w4.heap.size := Nat.le_trans hs3 hk4.size
              cases hMM : M gk r' with
              | error q =>
                obtain ⟨p, er⟩ := q
                rw [hMM] at ho
                subst ho
                refine ⟨rfl, OutB.err ((HLR.out _).2 ?_) HK4.out⟩
                rw [← HG2.out, hMM]
              | ok q =>
                obtain ⟨x, ts2⟩ := q
                rw [hMM] at ho
                obtain ⟨hr4, v, rfl, rfl, hp⟩ := ho
                have HR4 := Lib.hid hr4
                have HP4 := Lib.hid hp
                have hlen := HM.out _ _ _ _ HR3.out.fin hMM
                have HLN := Lib.hid hlen
                have HG3 : Hid (S gk false (acc ++ [x]) ts2 = S f0 true [] r) := Lib.hid (by rw [← HG2.out, hMM])
                clear hr4 hp hk4 hMM hlen
                go_wp2_with fail
                go_roundg gk
                case measure => omega
                case rel => exact ⟨false, acc ++ [x], ts2, rfl, Lib.hid ⟨HR4.out, HK4.out, hs4, by have := HA.out.2.2.2.1; omega, by have := HA.out.2.2.2.2; have := HLN.out; simp only [List.length_cons, List.length_append, List.length_nil] at *; omega⟩, HP4, HG3⟩
        · have HI' := Lib.hid hi; clear hi
          have HG2 : Hid (S f0 true [] r = .ok (acc, t' :: r')) := Lib.hid (by rw [← HG.out, HS.out, listStep_end HI'.out])
          clear HG
          go_wp2_with fail
          refine (is_any R t' r' d [41] _ HA.out.1).mono ?_; rintro e w2 ⟨rfl, hb2⟩; rw [HI'.out]
          have HR2 := Lib.hid (HA.out.1.below hb2 HA.out.1.lt.1)
          have HQ2 := Lib.hid (HQ.out _ _ _ HQA.out (.of hb2))
          have hs2 : B ≤ w2.heap.size := Nat.le_trans HA.out.2.2.1 hb2.size
          have HK2 := Lib.hid (HA.out.2.1.below hb2 HA.out.2.2.1)
          clear hb2 HQA
          go_wp2_with fail
          refine (take_yes (x := [41]) HR2.out HI'.out).mono ?_; rintro e w3 ⟨rfl, hr3, hk3⟩
          have HR3 := Lib.hid hr3
          have HQ3 := Lib.hid (HQ.out _ _ _ HQ2.out hk3)
          have HK3 := Lib.hid (HK2.out.trans hk3 hs2)
          clear hr3 hk3
          go_wp2_with fail
          go_end0
          refine OutB.ok (x := acc) (ts := r') ((HLR.out _).2 ?_) HK3.out HR3.out ⟨rfl, HQ3.out⟩
          rw [HG2.out]
          simp only []
          unfold takeT
          rw [HI'.out]
          rfl
end Go.Proofs.YtkkeocnnecegbaaGreatDoor
