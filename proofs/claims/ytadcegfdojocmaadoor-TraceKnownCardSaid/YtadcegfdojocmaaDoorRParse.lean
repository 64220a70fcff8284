/- The walk over the reference's Parse: the trace that a text is, or none. By an AI agent. -/
import Derived.Test.YtadcegfdojocmaaDoorOneIn
import Derived.Test.YtadcegfdojocmaaDoorParse
namespace Go.Proofs.YtadcegfdojocmaaDoor
open Go.RowKit

/-- What the reference's Parse answers. -/
def RParseOut (B : Nat) (l : List UInt8) (e : Ending) (W : World) : Prop :=
  (∃ X v, pars l = some X ∧ e = .returned (.tuple #[v, .bool true]) ∧ W.ownsRow B 44 2 v X.length (evRow X)) ∨
  (pars l = none ∧ e = .returned (.tuple #[.slice none 0 0, .bool false]))
/-- Between two bytes: X has been read ahead of p, no blank stands from p to q. -/
def Mid (L : List UInt8) (p q : Nat) (X : List (Nat × Int)) : Prop := p ≤ L.length ∧ q ≤ L.length ∧ parsL (splitB L) = (parsL (splitB (L.drop p))).map (X ++ ·) ∧ ∀ i, p ≤ i → i < q → L[i]? ≠ some 32
/-- All has been read. -/
def Fin (L : List UInt8) (p q : Nat) (X : List (Nat × Int)) : Prop := p = L.length + 1 ∧ q = L.length + 1 ∧ parsL (splitB L) = some X
theorem no_blank {L : List UInt8} {p q : Nat} (h : ∀ i, p ≤ i → i < q → L[i]? ≠ some 32) : (32 : UInt8) ∉ (L.drop p).take (q - p) := by
  intro hm
  obtain ⟨i, hi⟩ := List.mem_iff_getElem?.1 hm
  have hlt : i < q - p := by
    have := (List.getElem?_eq_some_iff.1 hi).1
    rw [List.length_take] at this; omega
  rw [List.getElem?_take_of_lt hlt, List.getElem?_drop] at hi
  exact h (p + i) (by omega) (by omega) hi
theorem mid_split {L : List UInt8} {p q : Nat} {X : List (Nat × Int)} (h : Mid L p q X) (hpq : p ≤ q) (hq : L[q]? = some 32) : parsL (splitB L) = (oneP ((L.drop p).take (q - p))).bind fun x => (parsL (splitB (L.drop (q + 1)))).map ((X ++ [x]) ++ ·) := by
  obtain ⟨h1, h2, h3, h4⟩ := h
  have hql : q < L.length := (List.getElem?_eq_some_iff.1 hq).1
  have e : L.drop p = (L.drop p).take (q - p) ++ 32 :: L.drop (q + 1) := by
    conv => lhs; rw [← List.take_append_drop (q - p) (L.drop p)]
    congr 1
    rw [List.drop_drop, show p + (q - p) = q by omega, List.drop_eq_getElem_cons hql]
    congr 1
    exact (List.getElem?_eq_some_iff.1 hq).2
  rw [h3, e, splitB_step _ _ (no_blank h4)]
  rw [← e]
  simp only [parsL]
  cases oneP ((L.drop p).take (q - p)) with
  | none => rfl
  | some x =>
    cases parsL (splitB (L.drop (q + 1))) with
    | none => rfl
    | some t => simp
theorem mid_last {L : List UInt8} {p : Nat} {X : List (Nat × Int)} (h : Mid L p L.length X) : parsL (splitB L) = (oneP ((L.drop p).take (L.length - p))).map fun x => X ++ [x] := by
  obtain ⟨h1, h2, h3, h4⟩ := h
  have hb := no_blank h4
  have e : (L.drop p).take (L.length - p) = L.drop p := List.take_of_length_le (by simp)
  rw [e] at hb ⊢
  rw [h3, splitB_one _ hb]
  simp only [parsL]
  cases oneP (L.drop p) with
  | none => rfl
  | some x => simp
theorem mid_next {L : List UInt8} {p q : Nat} {X : List (Nat × Int)} (h : Mid L p q X) (hq : q < L.length) (hb : L[q]? ≠ some 32) : Mid L p (q + 1) X := by
  obtain ⟨h1, h2, h3, h4⟩ := h
  refine ⟨h1, by omega, h3, fun i hi hiq => ?_⟩
  by_cases e : i = q
  · rw [e]; exact hb
  · exact h4 i hi (by omega)
theorem mid_part {L : List UInt8} {p q : Nat} {X : List (Nat × Int)} {x : Nat × Int} (h : Mid L p q X) (hpq : p ≤ q) (hq : L[q]? = some 32) (ho : oneP ((L.drop p).take (q - p)) = some x) : Mid L (q + 1) (q + 1) (X ++ [x]) := by
  have hql : q < L.length := (List.getElem?_eq_some_iff.1 hq).1
  refine ⟨by omega, by omega, ?_, fun i hi hiq => by omega⟩
  rw [mid_split h hpq hq, ho]; rfl
theorem mid_end {L : List UInt8} {p : Nat} {X : List (Nat × Int)} {x : Nat × Int} (h : Mid L p L.length X) (ho : oneP ((L.drop p).take (L.length - p)) = some x) : Fin L (L.length + 1) (L.length + 1) (X ++ [x]) :=
  ⟨rfl, rfl, by rw [mid_last h, ho]; rfl⟩
theorem mid_none {L : List UInt8} {p q : Nat} {X : List (Nat × Int)} (h : Mid L p q X) (hpq : p ≤ q) (hq : q = L.length ∨ L[q]? = some 32) (ho : oneP ((L.drop p).take (q - p)) = none) : parsL (splitB L) = none := by
  rcases hq with rfl | hq
  · rw [mid_last h, ho]; rfl
  · rw [mid_split h hpq hq, ho]; rfl
theorem news2 (w : World) (a b : Value) : ∀ (j : Nat) u, [a, b][j]? = some u → ((w.alloc (.cells #[a, b] 44)).alloc (.cells #[a, b] 44)).cell? ((⟨w.heap.size + 1, 0, none⟩ : Addr).add j) = some u := by
  have := World.news_of_block (cs := #[a, b]) (t := 44) (fr := (0, 0)) (heap_alloc_new (w.alloc (.cells #[a, b] 44)) (.cells #[a, b] 44))
  rw [World.size_alloc] at this
  exact this
theorem ext_list (s : ByteArray) (p q : Nat) : (s.extract p q).data.toList = (s.data.toList.drop p).take (q - p) := by simp

set_option maxRecDepth 100000 in
set_option maxHeartbeats 8000000 in
theorem rparse_some (s : ByteArray) (w : World) (h0 : 0 < s.size) (hs : s.size ≤ 100000) :
    Calls Tryd.prog 27 #[.string s] w fun e w' => RParseOut w.heap.size s.data.toList e w' ∧ Below w.heap.size w w' := by
  obtain ⟨i0, hi0, hz0, hz1, hz2⟩ := info_parts infoEv
  have he := str_full h0
  have hsz : s.data.toList.length = s.size := (Lib.size_eq s).symm
  have HSZ := Lib.hid hsz
  clear hsz
  have hpars : pars s.data.toList = parsL (splitB s.data.toList) := by
    unfold pars; rw [if_neg (fun e => by have := HSZ.out; rw [e] at this; simp at this; omega)]
  have HP := Lib.hid hpars
  clear hpars
  go_enter Tryd.func27, Tryd.ntmps27
  go_wp2_with fail
  go_loopw [4, 5, 6] (fun v fr i wr => ∃ (p q : Nat) (X : List (Nat × Int)), fr = .int .i64 p ∧ i = .int .i64 q ∧ p ≤ q ∧ q ≤ s.size + 1 ∧ X.length ≤ p ∧ Below w.heap.size w wr ∧ wr.ownsRow w.heap.size 44 2 v X.length (evRow X) ∧ Hid (Mid s.data.toList p q X ∨ Fin s.data.toList p q X)) (fun _ _ i _ => s.size + 1 - (intOf i).toNat)
  case atStart => exact ⟨0, 0, [], rfl, rfl, Nat.le_refl _, by omega, by simp, Below.refl _ _, World.ownsRow_nil _ _ _ _, Lib.hid (Or.inl ⟨by omega, by omega, by simp, fun i hi hq => by omega⟩)⟩
  case round =>
    obtain ⟨p, q, X, rfl, rfl, hpq, hq1, hXp, hb, hrow, HM⟩ := hrel
    have HROW := Lib.hid hrow; have HB := Lib.hid hb
    clear hrow hb
    by_cases hq : q ≤ s.size
    · have hmid : Mid s.data.toList p q X := by
        rcases HM.out with h | ⟨_, h, _⟩
        · exact h
        · have := HSZ.out; omega
      have HMID := Lib.hid hmid
      clear hmid
      have hle : decide ((q : Int) ≤ (s.size : Int)) = true := by simp; omega
      have hq0 : (0 : Int) ≤ (q : Int) := by omega
      have hp0 : (0 : Int) ≤ (p : Int) := by omega
      have hpqI : (p : Int) ≤ (q : Int) := by omega
      have hqI : (q : Int) ≤ (s.size : Int) := by omega
      by_cases hlt : ∃ h : q < s.size, s[q] ≠ 32
      · obtain ⟨hql, hne⟩ := hlt
        have hd1 : decide ((q : Int) < (s.size : Int)) = true := by simp; omega
        have hd2 : ((s[q].toNat : Int) != 32) = true := by rw [bne_iff_ne]; intro e; exact hne (UInt8.toNat_inj.1 (by simp; omega))
        have hnx := mid_next HMID.out (by have := HSZ.out; omega) (by rw [Lib.data_getElem? s q hql]; simpa using hne)
        have HNX := Lib.hid hnx
        clear hnx hne
        go_wp2_with fail
        refine ⟨⟨p, q + 1, X, rfl, by go_num, by omega, by omega, hXp, HB.out, HROW.out, Lib.hid (Or.inl HNX.out)⟩, by simp [intOf]; omega⟩
      · have hend : q = s.size ∨ ∃ h : q < s.size, s[q] = 32 := by
          by_cases hql : q < s.size
          · exact Or.inr ⟨hql, Classical.byContradiction fun e => hlt ⟨hql, e⟩⟩
          · exact Or.inl (by omega)
        have hcase : q = s.data.toList.length ∨ s.data.toList[q]? = some 32 := by
          rcases hend with h | ⟨h, e⟩
          · exact Or.inl (by rw [HSZ.out]; exact h)
          · exact Or.inr (by rw [Lib.data_getElem? s q h, e])
        have HC := Lib.hid hcase
        have htest : decide (q < s.size) = false ∨ (∃ h : q < s.size, decide ((q : Int) < (s.size : Int)) = true ∧ ((s[q].toNat : Int) != 32) = false) := by
          rcases hend with h | ⟨h, e⟩
          · exact Or.inl (by simp; omega)
          · exact Or.inr ⟨h, by simp; omega, by rw [e]; rfl⟩
        clear hcase hend hlt
        have hone := one_any (s.extract p q)
        rw [ext_list] at hone
        have HONE := Lib.hid hone
        clear hone
        have hesz : (s.extract p q).size ≤ 100000 := by simp; omega
        rcases htest with hd1 | ⟨hql, hd1, hd2⟩
        all_goals
          go_wp2_with fail
          refine (HONE.out _ hesz).mono ?_
          rintro e w1 ⟨hout, hb1⟩
          rcases hout with ⟨k, x, ho, rfl⟩ | ⟨ho, k, x, rfl⟩
          · have HO := Lib.hid ho
            clear ho
            have hb2 := below_next HB.out hb1
            have HROW1 := Lib.hid (own_below HROW.out hb1)
            have hbz := hb2.size
            have HB2 := Lib.hid hb2
            clear hb2
            go_wp2_with (at_builtin; refine wpList_append_own _ rfl _ _ 22 rfl w.heap.size 44 i0 _ 2 16 Tryd.underlying22 hi0 hz0 hz1 hz2 rfl (by decide) _ _ _ rfl ((HROW1.out.alloc _).alloc _) ⟨w1.heap.size + 1, 0, none⟩ 1 1 [.int .u8 k, .int .i64 x] rfl rfl (news2 w1 _ _) (by simp [Value.oneCell']) (by unfold maxLen; omega) (by omega) (by simp; omega) ?_; intro v' w3 hown' hgrow _)
            go_wp2_with fail
            refine ⟨⟨q + 1, q + 1, X ++ [(k, x)], by go_num, by go_num, by omega, by omega, by simp; omega, ?_, by rw [List.length_append, evRow_snoc]; exact hown', ?_⟩, by simp [intOf]; omega⟩
            · exact ((HB2.out.alloc hbz _).alloc (by simp; omega) _).grown hgrow (by simp; omega) (fun j e => (HROW.out.lt j e).1)
            · refine Lib.hid ?_
              rcases HC.out with h | h
              · right
                have := HMID.out
                rw [h] at this ⊢
                exact mid_end this (by rw [← h]; exact HO.out)
              · exact Or.inl (mid_part HMID.out hpq h HO.out)
          · have HO := Lib.hid ho
            clear ho
            have hb2 := below_next HB.out hb1
            go_wp2_with fail
            go_ret2
            exact ⟨Or.inr ⟨by rw [HP.out]; exact mid_none HMID.out hpq HC.out HO.out, rfl⟩, hb2.alloc hb2.size _⟩
    · obtain rfl : q = s.size + 1 := by omega
      have hfin : Fin s.data.toList p (s.size + 1) X := by
        rcases HM.out with ⟨_, h, _⟩ | h
        · have := HSZ.out; omega
        · exact h
      have HF := Lib.hid hfin
      have hle : decide (((s.size : Int) + 1) ≤ (s.size : Int)) = false := by simp; omega
      clear hfin hq
      go_wp2_with fail
      go_ret2
      exact ⟨Or.inl ⟨X, _, by rw [HP.out]; exact HF.out.2.2, rfl, HROW.out⟩, HB.out⟩

theorem rparse_nil (w : World) : Calls Tryd.prog 27 #[.string ⟨#[]⟩] w fun e w' => RParseOut w.heap.size [] e w' ∧ Below w.heap.size w w' := by
  go_enter Tryd.func27, Tryd.ntmps27
  go_wp2_with fail
  refine wp_loop_rounds 1 ?_
  rw [rounds_succ]
  go_wp2_with fail
  go_ret2
  exact ⟨Or.inl ⟨[], _, rfl, rfl, World.ownsRow_nil _ _ _ _⟩, Below.refl _ _⟩

theorem rparse_any (s : ByteArray) (w : World) (hs : s.size ≤ 100000) : Calls Tryd.prog 27 #[.string s] w fun e w' => RParseOut w.heap.size s.data.toList e w' ∧ Below w.heap.size w w' := by
  by_cases h0 : 0 < s.size
  · exact rparse_some s w h0 hs
  · have hz : s = ⟨#[]⟩ := by
      have : s.data.toList = [] := List.length_eq_zero_iff.1 (by rw [← Lib.size_eq]; omega)
      ext1; exact Array.toList_inj.1 (by rw [this])
    subst hz
    exact rparse_nil w
end Go.Proofs.YtadcegfdojocmaaDoor
