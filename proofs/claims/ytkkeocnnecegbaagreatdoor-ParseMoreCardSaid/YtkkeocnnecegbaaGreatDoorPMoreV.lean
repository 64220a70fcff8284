/- Plain law of ParseMore, as its nodes lie in memory. By an AI agent. -/
import Derived.Test.YtkkeocnnecegbaaGreatDoorPEndsT
import Derived.Test.YtkkeocnnecegbaaGreatDoorPzD
namespace Go.Proofs.YtkkeocnnecegbaaGreatDoor
open Go.RowKit

mutual
theorem sim_at {M : Nat} : ∀ {x y : Item} (o : Nat), SimI (fun a _b => a ≤ M) x y → ∀ m ∈ flat o x, m.at' ≤ M
  | .mk k t n p ks, _, o, h => by
    cases h with
    | mk _ _ _ _ _ _ js h1 h2 =>
      intro m hm
      simp only [flat, List.mem_cons] at hm
      rcases hm with rfl | hm
      · exact h1
      · exact simL_at (o + 1) h2 m hm
theorem simL_at {M : Nat} : ∀ {x y : List Item} (o : Nat), SimL (fun a _b => a ≤ M) x y → ∀ m ∈ flatL o x, m.at' ≤ M
  | [], _, o, h => by intro m hm; simp [flatL] at hm
  | x :: r, _, o, h => by
    cases h with
    | cons _ _ _ _ h1 h2 =>
      intro m hm
      simp only [flatL, List.mem_append] at hm
      rcases hm with hm | hm
      · exact sim_at o h1 m hm
      · exact simL_at _ h2 m hm
end
/-- No node stands behind its source's end. -/
theorem parsed_at {l : List UInt8} {x : Item} (h : parseS l = .ok x) : ∀ m ∈ flat 0 x, m.at' ≤ l.length := by
  obtain ⟨ts, h1, h2⟩ := parse_two h
  have hlx : lx l 0 = .ok ts := by rw [← lexS_lx]; exact h1
  have hle : ∀ t ∈ ts, t.at' ≤ l.length := fun t ht => by have := lx_at_le hlx t ht; omega
  obtain ⟨z1, z2, z3⟩ := zip_alike (S := fun a b => a ≤ l.length) (ts := ts) (us := ts) rfl (fun i t u ht _ => hle t (List.mem_of_getElem? ht))
  rcases prog_sim z1 (by rw [z2]; exact lexS_end h1) with e1 | ⟨p, e, q, e1, e2, _⟩ | ⟨x', y, e1, e2, e3⟩
  · rw [z2, h2] at e1; cases e1
  · rw [z2, h2] at e1; cases e1
  · rw [z2, h2] at e1; injection e1 with e1; subst e1
    exact sim_at 0 e3
theorem offs_le : ∀ (ks : List Item) (o : Nat), ∀ k ∈ offs o ks, k ≤ o + sizeL ks
  | [], o, k, h => by simp [offs] at h
  | x :: r, o, k, h => by
    simp only [offs, List.mem_cons] at h
    rcases h with rfl | h
    · omega
    · have := offs_le r _ k h
      simp only [sizeL]; omega
mutual
theorem kids_le : ∀ (x : Item) (o : Nat), ∀ m ∈ flat o x, ∀ k ∈ m.kids, k ≤ o + sizeI x
  | .mk k t n p ks, o, m, hm, j, hj => by
    simp only [flat, List.mem_cons] at hm
    simp only [sizeI]
    rcases hm with rfl | hm
    · have := offs_le ks _ j hj; omega
    · have := kidsL_le ks (o + 1) m hm j hj; omega
theorem kidsL_le : ∀ (l : List Item) (o : Nat), ∀ m ∈ flatL o l, ∀ k ∈ m.kids, k ≤ o + sizeL l
  | [], o, m, hm, j, hj => by simp [flatL] at hm
  | x :: r, o, m, hm, j, hj => by
    simp only [flatL, List.mem_append] at hm
    simp only [sizeL]
    rcases hm with hm | hm
    · have := kids_le x o m hm j hj; omega
    · have := kidsL_le r _ m hm j hj; omega
end

def shiftG (d b : Nat) (m : GN) : GN := ⟨m.kind, m.text, m.n, m.at' + d, m.kids.map (· + (b : Int))⟩
theorem shiftG_zero (m : GN) : shiftG 0 0 m = m := by
  unfold shiftG
  have : m.kids.map (· + ((0 : Nat) : Int)) = m.kids := by
    conv => rhs; rw [← List.map_id m.kids]
    apply List.map_congr_left; intro k _; simp
  rw [this]; simp
def SmallG (g : GN) : Prop := (0 ≤ g.at' ∧ g.at' ≤ 100000) ∧ g.kids.length ≤ 100000 ∧ ∀ k ∈ g.kids, 0 ≤ k ∧ k ≤ 100000
structure MoreV (l1 l2 l3 : List PV) (d : Nat) : Prop where
  size : l3.length + 1 = l1.length + l2.length
  p1 : 0 < l1.length
  p2 : 0 < l2.length
  top : l1.length ≤ 10000 ∧ l2.length ≤ 10000
  root : ∃ g gx gy, l3[0]? = some g ∧ l1[0]? = some gx ∧ l2[0]? = some gy ∧ g.1.kids.length = gx.1.kids.length + gy.1.kids.length ∧ gx.1.kids.length ≤ 100000 ∧ gy.1.kids.length ≤ 100000
  lo : ∀ i, 1 ≤ i → i < l1.length → ∃ g u, l3[i]? = some g ∧ l1[i]? = some u ∧ g.1 = u.1 ∧ SmallG u.1
  hi : ∀ i, l1.length ≤ i → i < l3.length → ∃ g u, l3[i]? = some g ∧ l2[i + 1 - l1.length]? = some u ∧ g.1 = shiftG d (l1.length - 1) u.1 ∧ SmallG u.1
theorem gns_get {l : List PV} {f : List NodeS} {i : Nat} {m : NodeS} (h : gns l = f.map gn) (hi : f[i]? = some m) : ∃ g, l[i]? = some g ∧ g.1 = gn m := by
  have h2 := congrArg (·[i]?) h
  simp only [gns, List.getElem?_map, hi, Option.map_some] at h2
  cases hl : l[i]? with
  | none => rw [hl] at h2; cases h2
  | some g => rw [hl] at h2; injection h2 with h2; exact ⟨g, rfl, h2⟩
theorem small_flat {src : List UInt8} {x : Item} (h : parseS src = .ok x) (hn : src.length ≤ 700) (hs : sizeI x ≤ 10000) {i : Nat} {m : NodeS} (hm : (flat 0 x)[i]? = some m) : SmallG (gn m) := by
  have hmem := List.mem_of_getElem? hm
  refine ⟨⟨by show (0 : Int) ≤ (m.at' : Int); omega, ?_⟩, ?_, fun k hk => ?_⟩
  · have := parsed_at h m hmem
    show (m.at' : Int) ≤ 100000; omega
  · show (m.kids.map _).length ≤ 100000
    rw [List.length_map]
    have := flat_kids x 0 m hmem; omega
  · obtain ⟨j, hj, rfl⟩ := List.mem_map.1 hk
    have := kids_le x 0 m hmem j hj
    omega
theorem moreV_of {a b : List UInt8} {x y z : Item} {l1 l2 l3 : List PV} (hx : parseS a = .ok x) (hy : parseS b = .ok y) (hna : a.length ≤ 700) (hnb : b.length ≤ 700) (h : MoreT x y z (a.length + 1))
    (g1 : gns l1 = (flat 0 x).map gn) (g2 : gns l2 = (flat 0 y).map gn) (g3 : gns l3 = (flat 0 z).map gn) (s1 : l1.length ≤ 10000) (s2 : l2.length ≤ 10000) : MoreV l1 l2 l3 (a.length + 1) := by
  have e1 : l1.length = sizeI x := by have := congrArg List.length g1; rw [gns_len, List.length_map, flat_length] at this; exact this
  have e2 : l2.length = sizeI y := by have := congrArg List.length g2; rw [gns_len, List.length_map, flat_length] at this; exact this
  have e3 : l3.length = sizeI z := by have := congrArg List.length g3; rw [gns_len, List.length_map, flat_length] at this; exact this
  have k1 := sizeI_pos x; have k2 := sizeI_pos y
  refine ⟨by have := h.size; omega, by omega, by omega, ⟨s1, s2⟩, ?_, fun i h1 h2 => ?_, fun i h1 h2 => ?_⟩
  · obtain ⟨g, gx, gy, i1, i2, i3, i4⟩ := h.root
    obtain ⟨v, j1, j2⟩ := gns_get g3 i1
    obtain ⟨vx, j3, j4⟩ := gns_get g1 i2
    obtain ⟨vy, j5, j6⟩ := gns_get g2 i3
    have b1 := flat_kids x 0 gx (List.mem_of_getElem? i2)
    have b2 := flat_kids y 0 gy (List.mem_of_getElem? i3)
    refine ⟨v, vx, vy, j1, j3, j5, ?_, ?_, ?_⟩
    · rw [j2, j4, j6]; show (g.kids.map _).length = (gx.kids.map _).length + (gy.kids.map _).length
      rw [List.length_map, List.length_map, List.length_map]; exact i4
    · rw [j4]; show (gx.kids.map _).length ≤ _; rw [List.length_map]; omega
    · rw [j6]; show (gy.kids.map _).length ≤ _; rw [List.length_map]; omega
  · have hl := h.lo i h1 (by omega)
    have hi : i < (flat 0 x).length := by rw [flat_length]; omega
    obtain ⟨u, j1, j2⟩ := gns_get g1 (List.getElem?_eq_getElem hi)
    rw [List.getElem?_eq_getElem hi] at hl
    obtain ⟨v, j3, j4⟩ := gns_get g3 hl
    exact ⟨v, u, j3, j1, by rw [j2, j4], by rw [j2]; exact small_flat hx hna (by omega) (List.getElem?_eq_getElem hi)⟩
  · have hl := h.hi i (by omega)
    have hs := h.size
    have hi : i + 1 - l1.length < (flat 0 y).length := by rw [flat_length]; omega
    obtain ⟨u, j1, j2⟩ := gns_get g2 (List.getElem?_eq_getElem hi)
    rw [← e1, List.getElem?_eq_getElem hi, Option.map_some] at hl
    obtain ⟨v, j3, j4⟩ := gns_get g3 hl
    refine ⟨v, u, j3, j1, ?_, by rw [j2]; exact small_flat hy hnb (by omega) (List.getElem?_eq_getElem hi)⟩
    rw [j2, j4]
    unfold gn shiftN shiftG
    simp only [List.map_map, GN.mk.injEq, true_and]
    refine ⟨by omega, ?_⟩
    apply List.map_congr_left
    intro k _
    simp only [Function.comp_apply]
    omega
end Go.Proofs.YtkkeocnnecegbaaGreatDoor
