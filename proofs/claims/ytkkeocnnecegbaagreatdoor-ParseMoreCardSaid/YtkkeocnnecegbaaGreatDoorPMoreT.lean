/- Plain law of ParseMore: the nodes of two programs, one behind the other. By an AI agent. -/
import Derived.Test.YtkkeocnnecegbaaGreatDoorPMore
import Derived.Test.YtkkeocnnecegbaaGreatDoorJF
namespace Go.Proofs.YtkkeocnnecegbaaGreatDoor
open Go.RowKit

def shiftN (d b : Nat) (m : NodeS) : NodeS := ⟨m.kind, m.text, m.n, m.at' + d, m.kids.map (· + b)⟩
/-- z: x's parts, then y's, which stand d later. -/
structure MoreT (x y z : Item) (d : Nat) : Prop where
  size : sizeI z + 1 = sizeI x + sizeI y
  root : ∃ g gx gy, (flat 0 z)[0]? = some g ∧ (flat 0 x)[0]? = some gx ∧ (flat 0 y)[0]? = some gy ∧ g.kids.length = gx.kids.length + gy.kids.length
  lo : ∀ i, 1 ≤ i → i < sizeI x → (flat 0 z)[i]? = (flat 0 x)[i]?
  hi : ∀ i, sizeI x ≤ i → (flat 0 z)[i]? = ((flat 0 y)[i + 1 - sizeI x]?).map (shiftN d (sizeI x - 1))
theorem moreT_of {p q r d : Nat} {l m m' : List Item} (h : SimL (fun p q => q = p + d) m m') : MoreT (.mk 1 [] 0 p l) (.mk 1 [] 0 q m) (.mk 1 [] 0 r (l ++ m')) d := by
  have hs := sizeL_sim h
  obtain ⟨h1, h2⟩ := flatL_shift 1 (sizeL l) h
  have hz : flat 0 (.mk 1 [] 0 r (l ++ m')) = ⟨1, [], 0, r, offs 1 (l ++ m')⟩ :: (flatL 1 l ++ (flatL 1 m).map (shiftN d (sizeL l))) := by
    simp only [flat, flatL_append, Nat.zero_add]
    rw [h1]; rfl
  have hl1 : (flatL 1 l).length = sizeL l := flatL_length l 1
  refine ⟨by simp only [sizeI, sizeL_append]; omega, ⟨_, ⟨1, [], 0, p, offs 1 l⟩, ⟨1, [], 0, q, offs 1 m⟩, by rw [hz]; rfl, rfl, rfl, ?_⟩, fun i h1 h2 => ?_, fun i h1 => ?_⟩
  · simp only [offs_length, List.length_append]
    have : m'.length = m.length := by
      have := congrArg List.length h2
      rwa [offs_length, List.length_map, offs_length] at this
    omega
  · rw [hz]
    obtain ⟨j, rfl⟩ : ∃ j, i = j + 1 := ⟨i - 1, by omega⟩
    simp only [sizeI] at h2
    rw [List.getElem?_cons_succ, List.getElem?_append_left (by omega)]
    show _ = (⟨1, [], 0, p, offs (0 + 1) l⟩ :: flatL (0 + 1) l)[j + 1]?
    rw [List.getElem?_cons_succ, Nat.zero_add]
  · rw [hz]
    simp only [sizeI] at h1 ⊢
    obtain ⟨j, rfl⟩ : ∃ j, i = j + 1 + sizeL l := ⟨i - 1 - sizeL l, by omega⟩
    rw [show j + 1 + sizeL l = (j + sizeL l) + 1 by omega, List.getElem?_cons_succ, List.getElem?_append_right (by omega), List.getElem?_map]
    rw [show j + sizeL l + 1 + 1 - (1 + sizeL l) = j + 1 by omega]
    show _ = ((⟨1, [], 0, q, offs (0 + 1) m⟩ :: flatL (0 + 1) m)[j + 1]?).map _
    rw [List.getElem?_cons_succ, Nat.zero_add, hl1, show j + sizeL l - sizeL l = j by omega, show 1 + sizeL l - 1 = sizeL l by omega]
/-- TWO PROGRAMS with a blank between. -/
theorem parse_more {a b : List UInt8} {x y : Item} (h1 : parseS a = .ok x) (h2 : parseS b = .ok y) : ∃ z, parseS (a ++ 32 :: b) = .ok z ∧ MoreT x y z (a.length + 1) := by
  obtain ⟨ts, e1, e2⟩ := parse_two h1
  obtain ⟨us, e3, e4⟩ := parse_two h2
  have ha : lx a 0 = .ok ts := by rw [← lexS_lx]; exact e1
  have hb : lx b 0 = .ok us := by rw [← lexS_lx]; exact e3
  obtain ⟨inner, e, rfl, _⟩ := lx_inner ha
  have hb2 : lx b (0 + a.length + 1) = .ok (us.map (shiftT (a.length + 1))) := by
    rw [show 0 + a.length + 1 = 0 + (a.length + 1) by omega, lx_shift, hb]; rfl
  have hl : lexS (a ++ 32 :: b) = .ok (inner ++ us.map (shiftT (a.length + 1))) := by
    rw [lexS_lx, lx_more (by decide), ha]
    simp only [hb2, mapOk, List.dropLast_concat]
  obtain ⟨p, l, q, m, m', r, rfl, rfl, hs, hp⟩ := prog_app (c := ⟨5, [], 0, e⟩) (d := a.length + 1) rfl (lexS_end e1) (lexS_end e3) e2 e4
  exact ⟨_, parse_of hl hp, moreT_of hs⟩
end Go.Proofs.YtkkeocnnecegbaaGreatDoor
