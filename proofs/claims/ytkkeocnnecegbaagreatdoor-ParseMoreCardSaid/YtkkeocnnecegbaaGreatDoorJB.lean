/- Joint text: PSim, PLocal, PEnds, PTree, PRight, PText, PTextA. By an AI agent. -/
import Derived.Test.YtkkeocnnecegbaaGreatDoorJA
/- Plain law of parse: only kinds, texts and numbers of tokens matter, places are handed through; more fuel changes nothing. By an AI agent. -/
namespace Go.Proofs.YtkkeocnnecegbaaGreatDoor

abbrev Z := List (Tok × Tok)
abbrev Z.l (z : Z) : List Tok := z.map (·.1)
abbrev Z.r (z : Z) : List Tok := z.map (·.2)
/-- Two rows of tokens, alike but for their places, which are in a relation. -/
def ZS (S : Nat → Nat → Prop) (z : Z) : Prop := ∀ p ∈ z, tk p.1 = tk p.2 ∧ S p.1.at' p.2.at'
mutual
/-- Two items, alike but for their places, which are in a relation. -/
inductive SimI (S : Nat → Nat → Prop) : Item → Item → Prop
  | mk (k : Nat) (t : List UInt8) (n : Int) (a b : Nat) (ks js : List Item) : S a b → SimL S ks js → SimI S (.mk k t n a ks) (.mk k t n b js)
inductive SimL (S : Nat → Nat → Prop) : List Item → List Item → Prop
  | nil : SimL S [] []
  | cons (x y : Item) (r q : List Item) : SimI S x y → SimL S r q → SimL S (x :: r) (y :: q)
end
theorem SimL.append {S : Nat → Nat → Prop} {a b c d : List Item} (h1 : SimL S a b) (h2 : SimL S c d) : SimL S (a ++ c) (b ++ d) := by
  induction a generalizing b with
  | nil => cases h1; exact h2
  | cons x r ih => cases h1 with | cons _ y _ q hx hr => exact .cons _ _ _ _ hx (ih hr)
theorem SimL.one {S : Nat → Nat → Prop} {x y : Item} (h : SimI S x y) : SimL S [x] [y] := .cons _ _ _ _ h .nil

variable {S : Nat → Nat → Prop}
theorem ZS.tail {z : Z} (h : ZS S z) : ZS S z.tail := fun p hp => h p (List.mem_of_mem_tail hp)
theorem Z.l_tail (z : Z) : Z.l z.tail = (Z.l z).tail := by cases z <;> rfl
theorem Z.r_tail (z : Z) : Z.r z.tail = (Z.r z).tail := by cases z <;> rfl
theorem ZS.kind {z : Z} (h : ZS S z) : nowKind (Z.r z) = nowKind (Z.l z) := by
  cases z with
  | nil => rfl
  | cons p r => exact (tk_is (h p (by simp)).1).1.symm
theorem ZS.text {z : Z} (h : ZS S z) : nowText (Z.r z) = nowText (Z.l z) := by
  cases z with
  | nil => rfl
  | cons p r => exact (tk_is (h p (by simp)).1).2.1.symm
theorem ZS.num {z : Z} (h : ZS S z) : nowN (Z.r z) = nowN (Z.l z) := by
  cases z with
  | nil => rfl
  | cons p r => exact (tk_is (h p (by simp)).1).2.2.symm
theorem ZS.at' {z : Z} (h : ZS S z) (he : EndL (Z.l z)) : S (nowAt (Z.l z)) (nowAt (Z.r z)) := by
  cases z with
  | nil => cases he
  | cons p r => exact (h p (by simp)).2
theorem ZS.isT {z : Z} (h : ZS S z) (x : List UInt8) : isT x (Z.r z) = isT x (Z.l z) := by
  unfold Go.Proofs.YtkkeocnnecegbaaGreatDoor.isT; rw [h.kind, h.text]
theorem ZS.mark {z : Z} (h : ZS S z) (of : Nat) : markOf of (Z.r z) = markOf of (Z.l z) := by
  have : ∀ (l : List (List UInt8)) (n : Nat), markFrom of (Z.r z) n l = markFrom of (Z.l z) n l := by
    intro l
    induction l with
    | nil => intro n; rfl
    | cons m r ih => intro n; unfold markFrom; rw [h.isT, ih]
  exact this _ _
theorem ZS.word {z : Z} (h : ZS S z) : wordKind (Z.r z) = wordKind (Z.l z) := by
  unfold wordKind; rw [h.kind, h.text]

inductive RelT (S : Nat → Nat → Prop) (a b : Except PErr (List Tok)) : Prop
  | err (p : Nat) (e : Int) (q : Nat) : a = .error (p, e) → b = .error (q, e) → S p q → RelT S a b
  | ok (z : Z) : a = .ok (Z.l z) → b = .ok (Z.r z) → ZS S z → EndL (Z.l z) → RelT S a b
inductive RelR {α : Type} (S : Nat → Nat → Prop) (A : α → α → Prop) (a b : Except PErr (α × List Tok)) : Prop
  | out : a = .error outE → RelR S A a b
  | err (p : Nat) (e : Int) (q : Nat) : a = .error (p, e) → b = .error (q, e) → S p q → RelR S A a b
  | ok (x y : α) (z : Z) : a = .ok (x, Z.l z) → b = .ok (y, Z.r z) → A x y → ZS S z → EndL (Z.l z) → RelR S A a b

theorem take_sim {z : Z} (h : ZS S z) (he : EndL (Z.l z)) (x : List UInt8) : RelT S (takeT x (Z.l z)) (takeT x (Z.r z)) := by
  unfold takeT
  rw [h.isT]
  by_cases hi : isT x (Z.l z) = true
  · rw [if_pos hi, if_pos hi]
    exact .ok z.tail (by rw [Z.l_tail]) (by rw [Z.r_tail]) h.tail (by rw [Z.l_tail]; exact (he.tail (isT_kind hi)).1)
  · rw [if_neg hi, if_neg hi]
    exact .err _ _ _ rfl rfl (h.at' he)
theorem open_sim {z : Z} (h : ZS S z) (he : EndL (Z.l z)) (x : List UInt8) (d : Nat) : RelT S (openT x d (Z.l z)) (openT x d (Z.r z)) := by
  unfold openT
  rw [h.isT]
  split
  · exact .err _ _ _ rfl rfl (h.at' he)
  · exact take_sim h he x
theorem name_sim {z : Z} (h : ZS S z) (he : EndL (Z.l z)) : RelR S Eq (nameT (Z.l z)) (nameT (Z.r z)) := by
  unfold nameT
  rw [h.kind]
  by_cases hi : nowKind (Z.l z) = 1
  · rw [if_pos hi, if_pos hi]
    exact .ok _ _ z.tail (by rw [Z.l_tail]) (by rw [Z.r_tail]) h.text.symm h.tail (by rw [Z.l_tail]; exact (he.tail (by omega)).1)
  · rw [if_neg hi, if_neg hi]
    exact .err _ _ _ rfl rfl (h.at' he)

theorem simX : ∀ f : Nat,
    (∀ g of d (z : Z), f ≤ g → ZS S z → EndL (Z.l z) → RelR S (SimI S) (binS f of d (Z.l z)) (binS g of d (Z.r z))) ∧
    (∀ g of d a b x y (z : Z), f ≤ g → ZS S z → EndL (Z.l z) → S a b → SimI S x y → RelR S (SimI S) (loopS f of d a x (Z.l z)) (loopS g of d b y (Z.r z))) ∧
    (∀ g d (z : Z), f ≤ g → ZS S z → EndL (Z.l z) → RelR S (SimI S) (unS f d (Z.l z)) (unS g d (Z.r z))) ∧
    (∀ g d (z : Z), f ≤ g → ZS S z → EndL (Z.l z) → RelR S (SimI S) (facS f d (Z.l z)) (facS g d (Z.r z)))
  | 0 => ⟨fun _ _ _ _ _ _ _ => .out (by unfold binS; rfl), fun _ _ _ _ _ _ _ _ _ _ _ _ _ => .out (by unfold loopS; rfl), fun _ _ _ _ _ _ => .out (by unfold unS; rfl), fun _ _ _ _ _ _ => .out (by unfold facS; rfl)⟩
  | f + 1 => by
    obtain ⟨hb, hl, hu, hf⟩ := simX f
    refine ⟨?_, ?_, ?_, ?_⟩
    · intro g of d z hg h he
      obtain ⟨g, rfl⟩ : ∃ g', g = g' + 1 := ⟨g - 1, by omega⟩
      unfold binS
      split
      · exact hu g d z (by omega) h he
      · rcases hb g (of + 1) d z (by omega) h he with e1 | ⟨p, e, q, e1, e2, e3⟩ | ⟨x, y, z1, e1, e2, e3, e4, e5⟩
        · exact .out (by rw [e1])
        · exact .err p e q (by rw [e1]) (by rw [e2]) e3
        · simp only [e1, e2]
          exact hl g of d _ _ _ _ z1 (by omega) e4 e5 (h.at' he) e3
    · intro g of d a b x y z hg h he hab hxy
      obtain ⟨g, rfl⟩ : ∃ g', g = g' + 1 := ⟨g - 1, by omega⟩
      unfold loopS
      rw [h.mark]
      by_cases hm : markOf of (Z.l z) = 0
      · rw [if_pos hm, if_pos hm]
        exact .ok _ _ z rfl rfl hxy h he
      · rw [if_neg hm, if_neg hm]
        have ht := (markOf_tail he hm).1
        rw [← Z.l_tail] at ht
        rw [← Z.l_tail, ← Z.r_tail]
        rcases hb g (of + 1) d z.tail (by omega) h.tail ht with e1 | ⟨p, e, q, e1, e2, e3⟩ | ⟨x1, y1, z1, e1, e2, e3, e4, e5⟩
        · exact .out (by rw [e1])
        · exact .err p e q (by rw [e1]) (by rw [e2]) e3
        · simp only [e1, e2]
          exact hl g of d _ _ _ _ z1 (by omega) e4 e5 hab (.mk _ _ _ _ _ _ _ hab (.cons _ _ _ _ hxy (.one e3)))
    · intro g d z hg h he
      obtain ⟨g, rfl⟩ : ∃ g', g = g' + 1 := ⟨g - 1, by omega⟩
      have un : ∀ (m : List UInt8) (n : Int), RelR S (SimI S) (match openT m d (Z.l z) with
          | .error e => .error e
          | .ok ts1 => match unS f (d + 1) ts1 with
            | .error e => .error e
            | .ok (x, ts2) => .ok (Item.mk 20 [] n (nowAt (Z.l z)) [x], ts2)) (match openT m d (Z.r z) with
          | .error e => .error e
          | .ok ts1 => match unS g (d + 1) ts1 with
            | .error e => .error e
            | .ok (x, ts2) => .ok (Item.mk 20 [] n (nowAt (Z.r z)) [x], ts2)) := by
        intro m n
        rcases open_sim h he m d with ⟨p, e, q, e1, e2, e3⟩ | ⟨z1, e1, e2, e4, e5⟩
        · exact .err p e q (by rw [e1]) (by rw [e2]) e3
        · simp only [e1, e2]
          rcases hu g (d + 1) z1 (by omega) e4 e5 with e1 | ⟨p, e, q, e1, e2, e3⟩ | ⟨x1, y1, z1, e1, e2, e3, e4, e5⟩
          · exact .out (by rw [e1])
          · exact .err p e q (by rw [e1]) (by rw [e2]) e3
          · simp only [e1, e2]
            exact .ok _ _ z1 rfl rfl (.mk _ _ _ _ _ _ _ (h.at' he) (.one e3)) e4 e5
      unfold unS
      rw [h.isT, h.isT]
      split
      · exact un [45] 1
      · split
        · exact un [33] 2
        · exact hf g d z (by omega) h he
    · intro g d z hg h he
      obtain ⟨g, rfl⟩ : ∃ g', g = g' + 1 := ⟨g - 1, by omega⟩
      unfold facS
      rw [h.kind]
      by_cases k3 : nowKind (Z.l z) = 3
      · rw [if_pos k3, if_pos k3]
        rw [h.num]
        exact .ok _ _ z.tail (by rw [Z.l_tail]) (by rw [Z.r_tail]) (.mk _ _ _ _ _ _ _ (h.at' he) .nil) h.tail (by rw [Z.l_tail]; exact (he.tail (by omega)).1)
      · rw [if_neg k3, if_neg k3]
        by_cases k1 : nowKind (Z.l z) = 1
        · rw [if_pos k1, if_pos k1]
          have ht := (he.tail (show nowKind (Z.l z) ≠ 5 by omega)).1
          rw [← Z.l_tail] at ht
          rw [← Z.l_tail, ← Z.r_tail, h.tail.isT, h.text]
          split
          · rcases open_sim h.tail ht [91] d with ⟨p, e, q, e1, e2, e3⟩ | ⟨z1, e1, e2, e4, e5⟩
            · exact .err p e q (by rw [e1]) (by rw [e2]) e3
            simp only [e1, e2]
            rcases hb g 1 (d + 1) z1 (by omega) e4 e5 with e1 | ⟨p, e, q, e1, e2, e3⟩ | ⟨x1, y1, z1, e1, e2, e3, e4, e5⟩
            · exact .out (by rw [e1])
            · exact .err p e q (by rw [e1]) (by rw [e2]) e3
            simp only [e1, e2]
            rcases take_sim e4 e5 [93] with ⟨p, e, q, e1, e2, e3⟩ | ⟨z2, e1, e2, e6, e7⟩
            · exact .err p e q (by rw [e1]) (by rw [e2]) e3
            simp only [e1, e2]
            exact .ok _ _ z2 rfl rfl (.mk _ _ _ _ _ _ _ (h.at' he) (.one e3)) e6 e7
          · exact .ok _ _ z.tail rfl rfl (.mk _ _ _ _ _ _ _ (h.at' he) .nil) h.tail ht
        · rw [if_neg k1, if_neg k1]
          rcases open_sim h he [40] d with ⟨p, e, q, e1, e2, e3⟩ | ⟨z1, e1, e2, e4, e5⟩
          · exact .err p e q (by rw [e1]) (by rw [e2]) e3
          simp only [e1, e2]
          rcases hb g 1 (d + 1) z1 (by omega) e4 e5 with e1 | ⟨p, e, q, e1, e2, e3⟩ | ⟨x1, y1, z1, e1, e2, e3, e4, e5⟩
          · exact .out (by rw [e1])
          · exact .err p e q (by rw [e1]) (by rw [e2]) e3
          simp only [e1, e2]
          rcases take_sim e4 e5 [41] with ⟨p, e, q, e1, e2, e3⟩ | ⟨z2, e1, e2, e6, e7⟩
          · exact .err p e q (by rw [e1]) (by rw [e2]) e3
          simp only [e1, e2]
          exact .ok _ _ z2 rfl rfl (by assumption) e6 e7

theorem bin_sim {f g d : Nat} {z : Z} (hg : f ≤ g) (h : ZS S z) (he : EndL (Z.l z)) : RelR S (SimI S) (binS f 1 d (Z.l z)) (binS g 1 d (Z.r z)) := (simX f).1 g 1 d z hg h he
theorem args_sim : ∀ (f g d : Nat) (b : Bool) (acc bcc : List Item) (z : Z), f ≤ g → ZS S z → EndL (Z.l z) → SimL S acc bcc → RelR S (SimL S) (argsS f d b acc (Z.l z)) (argsS g d b bcc (Z.r z))
  | 0, _, _, _, _, _, _, _, _, _, _ => .out (by unfold argsS; rfl)
  | f + 1, g, d, b, acc, bcc, z, hg, h, he, ha => by
    obtain ⟨g, rfl⟩ : ∃ g', g = g' + 1 := ⟨g - 1, by omega⟩
    unfold argsS
    rw [h.isT]
    by_cases hi : isT [41] (Z.l z) = true
    · rw [if_pos hi, if_pos hi]
      exact .ok _ _ z rfl rfl ha h he
    rw [if_neg hi, if_neg hi]
    have c : RelT S (if b = true then .ok (Z.l z) else takeT [44] (Z.l z)) (if b = true then .ok (Z.r z) else takeT [44] (Z.r z)) := by
      cases b
      · exact take_sim h he _
      · exact .ok z rfl rfl h he
    rcases c with ⟨p, e, q, e1, e2, e3⟩ | ⟨z1, e1, e2, a1, a2⟩
    · exact .err p e q (by simp only [e1]) (by simp only [e2]) e3
    simp only [e1, e2]
    rcases bin_sim (f := f) (g := g) (d := d) (by omega) a1 a2 with e1 | ⟨p, e, q, e1, e2, e3⟩ | ⟨x, y, z2, e1, e2, b1, b2, b3⟩
    · exact .out (by simp only [e1])
    · exact .err p e q (by simp only [e1]) (by simp only [e2]) e3
    simp only [e1, e2]
    exact args_sim f g d false _ _ z2 (by omega) b2 b3 (ha.append (.one b1))
theorem pars_sim : ∀ (f g : Nat) (b : Bool) (acc bcc : List Item) (z : Z), f ≤ g → ZS S z → EndL (Z.l z) → SimL S acc bcc → RelR S (SimL S) (parsS f b acc (Z.l z)) (parsS g b bcc (Z.r z))
  | 0, _, _, _, _, _, _, _, _, _ => .out (by unfold parsS; rfl)
  | f + 1, g, b, acc, bcc, z, hg, h, he, ha => by
    obtain ⟨g, rfl⟩ : ∃ g', g = g' + 1 := ⟨g - 1, by omega⟩
    unfold parsS
    rw [h.isT]
    by_cases hi : isT [41] (Z.l z) = true
    · rw [if_pos hi, if_pos hi]
      exact .ok _ _ z rfl rfl ha h he
    rw [if_neg hi, if_neg hi]
    have c : RelT S (if b = true then .ok (Z.l z) else takeT [44] (Z.l z)) (if b = true then .ok (Z.r z) else takeT [44] (Z.r z)) := by
      cases b
      · exact take_sim h he _
      · exact .ok z rfl rfl h he
    rcases c with ⟨p, e, q, e1, e2, e3⟩ | ⟨z1, e1, e2, a1, a2⟩
    · exact .err p e q (by simp only [e1]) (by simp only [e2]) e3
    simp only [e1, e2]
    rcases name_sim a1 a2 with e1 | ⟨p, e, q, e1, e2, e3⟩ | ⟨x, y, z2, e1, e2, b1, b2, b3⟩
    · exact .out (by simp only [e1])
    · exact .err p e q (by simp only [e1]) (by simp only [e2]) e3
    simp only [e1, e2]
    subst b1
    exact pars_sim f g false _ _ z2 (by omega) b2 b3 (ha.append (.one (.mk _ _ _ _ _ _ _ (a1.at' a2) .nil)))
theorem ends_sim {f g d : Nat} {z : Z} (hg : f ≤ g) (h : ZS S z) (he : EndL (Z.l z)) : RelR S (SimI S) (endsS f d (Z.l z)) (endsS g d (Z.r z)) := by
  unfold endsS
  rcases bin_sim (f := f) (g := g) (d := d) hg h he with e1 | ⟨p, e, q, e1, e2, e3⟩ | ⟨x, y, z1, e1, e2, a1, a2, a3⟩
  · exact .out (by simp only [e1])
  · exact .err p e q (by simp only [e1]) (by simp only [e2]) e3
  simp only [e1, e2]
  rcases take_sim a2 a3 [59] with ⟨p, e, q, e1, e2, e3⟩ | ⟨z2, e1, e2, b1, b2⟩
  · exact .err p e q (by simp only [e1]) (by simp only [e2]) e3
  simp only [e1, e2]
  exact .ok _ _ z2 rfl rfl a1 b1 b2
theorem declare_sim {f g d a b : Nat} {z : Z} (hg : f ≤ g) (h : ZS S z) (he : EndL (Z.l z)) (hab : S a b) : RelR S (SimI S) (declareS f d a (Z.l z)) (declareS g d b (Z.r z)) := by
  unfold declareS
  rcases name_sim h he with e1 | ⟨p, e, q, e1, e2, e3⟩ | ⟨t, u, z1, e1, e2, a1, a2, a3⟩
  · exact .out (by simp only [e1])
  · exact .err p e q (by simp only [e1]) (by simp only [e2]) e3
  simp only [e1, e2]
  subst a1
  rcases take_sim a2 a3 [61] with ⟨p, e, q, e1, e2, e3⟩ | ⟨z2, e1, e2, b1, b2⟩
  · exact .err p e q (by simp only [e1]) (by simp only [e2]) e3
  simp only [e1, e2]
  rcases ends_sim (f := f) (g := g) (d := d) hg b1 b2 with e1 | ⟨p, e, q, e1, e2, e3⟩ | ⟨x, y, z3, e1, e2, c1, c2, c3⟩
  · exact .out (by simp only [e1])
  · exact .err p e q (by simp only [e1]) (by simp only [e2]) e3
  simp only [e1, e2]
  exact .ok _ _ z3 rfl rfl (.mk _ _ _ _ _ _ _ hab (.one c1)) c2 c3
theorem read_sim {a b : Nat} {z : Z} (h : ZS S z) (he : EndL (Z.l z)) (hab : S a b) : RelR S (SimI S) (readS a (Z.l z)) (readS b (Z.r z)) := by
  unfold readS
  rcases name_sim h he with e1 | ⟨p, e, q, e1, e2, e3⟩ | ⟨t, u, z1, e1, e2, a1, a2, a3⟩
  · exact .out (by simp only [e1])
  · exact .err p e q (by simp only [e1]) (by simp only [e2]) e3
  simp only [e1, e2]
  subst a1
  rcases take_sim a2 a3 [59] with ⟨p, e, q, e1, e2, e3⟩ | ⟨z2, e1, e2, b1, b2⟩
  · exact .err p e q (by simp only [e1]) (by simp only [e2]) e3
  simp only [e1, e2]
  exact .ok _ _ z2 rfl rfl (.mk _ _ _ _ _ _ _ hab .nil) b1 b2
theorem call_sim {f g d a b : Nat} {z : Z} (hg : f ≤ g) (h : ZS S z) (he : EndL (Z.l z)) (hab : S a b) : RelR S (SimI S) (callS f d a (Z.l z)) (callS g d b (Z.r z)) := by
  unfold callS
  rcases name_sim h he with e1 | ⟨p, e, q, e1, e2, e3⟩ | ⟨t, u, z1, e1, e2, a1, a2, a3⟩
  · exact .out (by simp only [e1])
  · exact .err p e q (by simp only [e1]) (by simp only [e2]) e3
  simp only [e1, e2]
  subst a1
  rcases take_sim a2 a3 [61] with ⟨p, e, q, e1, e2, e3⟩ | ⟨z2, e1, e2, b1, b2⟩
  · exact .err p e q (by simp only [e1]) (by simp only [e2]) e3
  simp only [e1, e2]
  rcases name_sim b1 b2 with e1 | ⟨p, e, q, e1, e2, e3⟩ | ⟨v, w, z3, e1, e2, c1, c2, c3⟩
  · exact .out (by simp only [e1])
  · exact .err p e q (by simp only [e1]) (by simp only [e2]) e3
  simp only [e1, e2]
  subst c1
  rcases take_sim c2 c3 [40] with ⟨p, e, q, e1, e2, e3⟩ | ⟨z4, e1, e2, d1, d2⟩
  · exact .err p e q (by simp only [e1]) (by simp only [e2]) e3
  simp only [e1, e2]
  rcases args_sim f g d true [] [] z4 hg d1 d2 .nil with e1 | ⟨p, e, q, e1, e2, e3⟩ | ⟨l, m, z5, e1, e2, f1, f2, f3⟩
  · exact .out (by simp only [e1])
  · exact .err p e q (by simp only [e1]) (by simp only [e2]) e3
  simp only [e1, e2]
  rcases take_sim f2 f3 [41] with ⟨p, e, q, e1, e2, e3⟩ | ⟨z6, e1, e2, g1, g2⟩
  · exact .err p e q (by simp only [e1]) (by simp only [e2]) e3
  simp only [e1, e2]
  rcases take_sim g1 g2 [59] with ⟨p, e, q, e1, e2, e3⟩ | ⟨z7, e1, e2, h1, h2⟩
  · exact .err p e q (by simp only [e1]) (by simp only [e2]) e3
  simp only [e1, e2]
  exact .ok _ _ z7 rfl rfl (.mk _ _ _ _ _ _ _ hab (.cons _ _ _ _ (.mk _ _ _ _ _ _ _ (b1.at' b2) .nil) f1)) h1 h2
theorem assign_sim {f g d : Nat} {z : Z} (hg : f ≤ g) (h : ZS S z) (he : EndL (Z.l z)) : RelR S (SimI S) (assignS f d (Z.l z)) (assignS g d (Z.r z)) := by
  unfold assignS
  rcases name_sim h he with e1 | ⟨p, e, q, e1, e2, e3⟩ | ⟨t, u, z1, e1, e2, a1, a2, a3⟩
  · exact .out (by simp only [e1])
  · exact .err p e q (by simp only [e1]) (by simp only [e2]) e3
  simp only [e1, e2]
  subst a1
  rw [a2.isT]
  split
  · skip
    rcases open_sim a2 a3 [91] d with ⟨p, e, q, e1, e2, e3⟩ | ⟨z2, e1, e2, b1, b2⟩
    · exact .err p e q (by simp only [e1]) (by simp only [e2]) e3
    simp only [e1, e2]
    rcases bin_sim (f := f) (g := g) (d := d + 1) hg b1 b2 with e1 | ⟨p, e, q, e1, e2, e3⟩ | ⟨x, y, z3, e1, e2, c1, c2, c3⟩
    · exact .out (by simp only [e1])
    · exact .err p e q (by simp only [e1]) (by simp only [e2]) e3
    simp only [e1, e2]
    rcases take_sim c2 c3 [93] with ⟨p, e, q, e1, e2, e3⟩ | ⟨z4, e1, e2, d1, d2⟩
    · exact .err p e q (by simp only [e1]) (by simp only [e2]) e3
    simp only [e1, e2]
    rcases take_sim d1 d2 [61] with ⟨p, e, q, e1, e2, e3⟩ | ⟨z5, e1, e2, f1, f2⟩
    · exact .err p e q (by simp only [e1]) (by simp only [e2]) e3
    simp only [e1, e2]
    rcases ends_sim (f := f) (g := g) (d := d) hg f1 f2 with e1 | ⟨p, e, q, e1, e2, e3⟩ | ⟨v, w, z6, e1, e2, g1, g2, g3⟩
    · exact .out (by simp only [e1])
    · exact .err p e q (by simp only [e1]) (by simp only [e2]) e3
    simp only [e1, e2]
    exact .ok _ _ z6 rfl rfl (.mk _ _ _ _ _ _ _ (h.at' he) (.cons _ _ _ _ c1 (.one g1))) g2 g3
  · skip
    rcases take_sim a2 a3 [61] with ⟨p, e, q, e1, e2, e3⟩ | ⟨z5, e1, e2, f1, f2⟩
    · exact .err p e q (by simp only [e1]) (by simp only [e2]) e3
    simp only [e1, e2]
    rcases ends_sim (f := f) (g := g) (d := d) hg f1 f2 with e1 | ⟨p, e, q, e1, e2, e3⟩ | ⟨v, w, z6, e1, e2, g1, g2, g3⟩
    · exact .out (by simp only [e1])
    · exact .err p e q (by simp only [e1]) (by simp only [e2]) e3
    simp only [e1, e2]
    exact .ok _ _ z6 rfl rfl (.mk _ _ _ _ _ _ _ (h.at' he) (.one g1)) g2 g3

theorem simS : ∀ f : Nat,
    (∀ g d (z : Z), f ≤ g → ZS S z → EndL (Z.l z) → RelR S (SimI S) (blockS f d (Z.l z)) (blockS g d (Z.r z))) ∧
    (∀ g d acc bcc (z : Z), f ≤ g → ZS S z → EndL (Z.l z) → SimL S acc bcc → RelR S (SimL S) (stmtsS f d acc (Z.l z)) (stmtsS g d bcc (Z.r z))) ∧
    (∀ g d a b (z : Z), f ≤ g → ZS S z → EndL (Z.l z) → S a b → RelR S (SimI S) (chooseS f d a (Z.l z)) (chooseS g d b (Z.r z))) ∧
    (∀ g d a b (z : Z), f ≤ g → ZS S z → EndL (Z.l z) → S a b → RelR S (SimI S) (forS f d a (Z.l z)) (forS g d b (Z.r z))) ∧
    (∀ g d (z : Z), f ≤ g → ZS S z → EndL (Z.l z) → RelR S (SimI S) (stmtS f d (Z.l z)) (stmtS g d (Z.r z)))
  | 0 => ⟨fun _ _ _ _ _ _ => .out (by unfold blockS; rfl), fun _ _ _ _ _ _ _ _ _ => .out (by unfold stmtsS; rfl), fun _ _ _ _ _ _ _ _ _ => .out (by unfold chooseS; rfl), fun _ _ _ _ _ _ _ _ _ => .out (by unfold forS; rfl), fun _ _ _ _ _ _ => .out (by unfold stmtS; rfl)⟩
  | f + 1 => by
    obtain ⟨hb, hl, hc, hf, hs⟩ := simS f
    refine ⟨?_, ?_, ?_, ?_, ?_⟩
    · intro g d z hg h he
      obtain ⟨g, rfl⟩ : ∃ g', g = g' + 1 := ⟨g - 1, by omega⟩
      unfold blockS
      rcases open_sim h he [123] d with ⟨p, e, q, e1, e2, e3⟩ | ⟨z1, e1, e2, a1, a2⟩
      · exact .err p e q (by simp only [e1]) (by simp only [e2]) e3
      simp only [e1, e2]
      rcases hl g (d + 1) [] [] z1 (by omega) a1 a2 .nil with e1 | ⟨p, e, q, e1, e2, e3⟩ | ⟨l, m, z2, e1, e2, b1, b2, b3⟩
      · exact .out (by simp only [e1])
      · exact .err p e q (by simp only [e1]) (by simp only [e2]) e3
      simp only [e1, e2]
      rcases take_sim b2 b3 [125] with ⟨p, e, q, e1, e2, e3⟩ | ⟨z3, e1, e2, c1, c2⟩
      · exact .err p e q (by simp only [e1]) (by simp only [e2]) e3
      simp only [e1, e2]
      exact .ok _ _ z3 rfl rfl (.mk _ _ _ _ _ _ _ (h.at' he) b1) c1 c2
    · intro g d acc bcc z hg h he ha
      obtain ⟨g, rfl⟩ : ∃ g', g = g' + 1 := ⟨g - 1, by omega⟩
      unfold stmtsS
      rw [h.isT]
      by_cases hi : isT [125] (Z.l z) = true
      · rw [if_pos hi, if_pos hi]
        exact .ok _ _ z rfl rfl ha h he
      rw [if_neg hi, if_neg hi]
      rcases hs g d z (by omega) h he with e1 | ⟨p, e, q, e1, e2, e3⟩ | ⟨x, y, z1, e1, e2, a1, a2, a3⟩
      · exact .out (by simp only [e1])
      · exact .err p e q (by simp only [e1]) (by simp only [e2]) e3
      simp only [e1, e2]
      exact hl g d _ _ z1 (by omega) a2 a3 (ha.append (.one a1))
    · intro g d a b z hg h he hab
      obtain ⟨g, rfl⟩ : ∃ g', g = g' + 1 := ⟨g - 1, by omega⟩
      unfold chooseS
      rcases bin_sim (f := f) (g := g) (d := d) (by omega) h he with e1 | ⟨p, e, q, e1, e2, e3⟩ | ⟨x, y, z1, e1, e2, a1, a2, a3⟩
      · exact .out (by simp only [e1])
      · exact .err p e q (by simp only [e1]) (by simp only [e2]) e3
      simp only [e1, e2]
      rcases hb g d z1 (by omega) a2 a3 with e1 | ⟨p, e, q, e1, e2, e3⟩ | ⟨v, w, z2, e1, e2, b1, b2, b3⟩
      · exact .out (by simp only [e1])
      · exact .err p e q (by simp only [e1]) (by simp only [e2]) e3
      simp only [e1, e2]
      rw [b2.isT]
      by_cases hi : isT [101, 108, 115, 101] (Z.l z2) = true
      · rw [if_pos hi, if_pos hi]
        have ht := (b3.tail (isT_kind hi)).1
        rw [← Z.l_tail] at ht
        rw [← Z.l_tail, ← Z.r_tail]
        rcases hb g d z2.tail (by omega) b2.tail ht with e1 | ⟨p, e, q, e1, e2, e3⟩ | ⟨m, n, z3, e1, e2, c1, c2, c3⟩
        · exact .out (by simp only [e1])
        · exact .err p e q (by simp only [e1]) (by simp only [e2]) e3
        simp only [e1, e2]
        exact .ok _ _ z3 rfl rfl (.mk _ _ _ _ _ _ _ hab (.cons _ _ _ _ a1 (.cons _ _ _ _ b1 (.one c1)))) c2 c3
      · rw [if_neg hi, if_neg hi]
        exact .ok _ _ z2 rfl rfl (.mk _ _ _ _ _ _ _ hab (.cons _ _ _ _ a1 (.one b1))) b2 b3
    · intro g d a b z hg h he hab
      obtain ⟨g, rfl⟩ : ∃ g', g = g' + 1 := ⟨g - 1, by omega⟩
      unfold forS
      rcases bin_sim (f := f) (g := g) (d := d) (by omega) h he with e1 | ⟨p, e, q, e1, e2, e3⟩ | ⟨x, y, z1, e1, e2, a1, a2, a3⟩
      · exact .out (by simp only [e1])
      · exact .err p e q (by simp only [e1]) (by simp only [e2]) e3
      simp only [e1, e2]
      rcases hb g d z1 (by omega) a2 a3 with e1 | ⟨p, e, q, e1, e2, e3⟩ | ⟨v, w, z2, e1, e2, b1, b2, b3⟩
      · exact .out (by simp only [e1])
      · exact .err p e q (by simp only [e1]) (by simp only [e2]) e3
      simp only [e1, e2]
      exact .ok _ _ z2 rfl rfl (.mk _ _ _ _ _ _ _ hab (.cons _ _ _ _ a1 (.one b1))) b2 b3
    · intro g d z hg h he
      obtain ⟨g, rfl⟩ : ∃ g', g = g' + 1 := ⟨g - 1, by omega⟩
      unfold stmtS
      rw [h.word]
      by_cases h0 : wordKind (Z.l z) = 0
      · rw [if_pos h0, if_pos h0]
        exact assign_sim (by omega) h he
      rw [if_neg h0, if_neg h0]
      have ht := (wordKind_tail he h0).1
      rw [← Z.l_tail] at ht
      rw [← Z.l_tail, ← Z.r_tail]
      have hat := h.at' he
      split
      · exact declare_sim (by omega) h.tail ht hat
      split
      · exact hc g d _ _ z.tail (by omega) h.tail ht hat
      split
      · exact hf g d _ _ z.tail (by omega) h.tail ht hat
      split
      · exact read_sim h.tail ht hat
      split
      · exact call_sim (by omega) h.tail ht hat
      rcases ends_sim (f := f) (g := g) (d := d) (by omega) h.tail ht with e1 | ⟨p, e, q, e1, e2, e3⟩ | ⟨x, y, z1, e1, e2, a1, a2, a3⟩
      · exact .out (by simp only [e1])
      · exact .err p e q (by simp only [e1]) (by simp only [e2]) e3
      simp only [e1, e2]
      exact .ok _ _ z1 rfl rfl (.mk _ _ _ _ _ _ _ hat (.one a1)) a2 a3

theorem array_sim {z : Z} (h : ZS S z) (he : EndL (Z.l z)) : RelR S (SimI S) (arrayS (Z.l z)) (arrayS (Z.r z)) := by
  unfold arrayS
  rcases take_sim h he [118, 97, 114] with ⟨p, e, q, e1, e2, e3⟩ | ⟨z1, e1, e2, a1, a2⟩
  · exact .err p e q (by simp only [e1]) (by simp only [e2]) e3
  simp only [e1, e2]
  rcases name_sim a1 a2 with e1 | ⟨p, e, q, e1, e2, e3⟩ | ⟨t, u, z2, e1, e2, b1, b2, b3⟩
  · exact .out (by simp only [e1])
  · exact .err p e q (by simp only [e1]) (by simp only [e2]) e3
  simp only [e1, e2]
  subst b1
  rcases take_sim b2 b3 [91] with ⟨p, e, q, e1, e2, e3⟩ | ⟨z3, e1, e2, c1, c2⟩
  · exact .err p e q (by simp only [e1]) (by simp only [e2]) e3
  simp only [e1, e2]
  rw [c1.kind, c1.num]
  by_cases hk : nowKind (Z.l z3) = 3
  · rw [if_pos hk, if_pos hk]
    have ht := (c2.tail (show nowKind (Z.l z3) ≠ 5 by omega)).1
    rw [← Z.l_tail] at ht
    rw [← Z.l_tail, ← Z.r_tail]
    rcases take_sim c1.tail ht [93] with ⟨p, e, q, e1, e2, e3⟩ | ⟨z4, e1, e2, d1, d2⟩
    · exact .err p e q (by simp only [e1]) (by simp only [e2]) e3
    simp only [e1, e2]
    rcases take_sim d1 d2 [59] with ⟨p, e, q, e1, e2, e3⟩ | ⟨z5, e1, e2, f1, f2⟩
    · exact .err p e q (by simp only [e1]) (by simp only [e2]) e3
    simp only [e1, e2]
    exact .ok _ _ z5 rfl rfl (.mk _ _ _ _ _ _ _ (h.at' he) .nil) f1 f2
  · rw [if_neg hk, if_neg hk]
    exact .err _ _ _ rfl rfl (c1.at' c2)
theorem func_sim {f g : Nat} {z : Z} (hg : f ≤ g) (h : ZS S z) (he : EndL (Z.l z)) : RelR S (SimI S) (funcS f (Z.l z)) (funcS g (Z.r z)) := by
  unfold funcS
  rcases take_sim h he [102, 117, 110, 99] with ⟨p, e, q, e1, e2, e3⟩ | ⟨z1, e1, e2, a1, a2⟩
  · exact .err p e q (by simp only [e1]) (by simp only [e2]) e3
  simp only [e1, e2]
  rcases name_sim a1 a2 with e1 | ⟨p, e, q, e1, e2, e3⟩ | ⟨t, u, z2, e1, e2, b1, b2, b3⟩
  · exact .out (by simp only [e1])
  · exact .err p e q (by simp only [e1]) (by simp only [e2]) e3
  simp only [e1, e2]
  subst b1
  rcases take_sim b2 b3 [40] with ⟨p, e, q, e1, e2, e3⟩ | ⟨z3, e1, e2, c1, c2⟩
  · exact .err p e q (by simp only [e1]) (by simp only [e2]) e3
  simp only [e1, e2]
  rcases pars_sim f g true [] [] z3 hg c1 c2 .nil with e1 | ⟨p, e, q, e1, e2, e3⟩ | ⟨l, m, z4, e1, e2, d1, d2, d3⟩
  · exact .out (by simp only [e1])
  · exact .err p e q (by simp only [e1]) (by simp only [e2]) e3
  simp only [e1, e2]
  rcases take_sim d2 d3 [41] with ⟨p, e, q, e1, e2, e3⟩ | ⟨z5, e1, e2, f1, f2⟩
  · exact .err p e q (by simp only [e1]) (by simp only [e2]) e3
  simp only [e1, e2]
  rcases (simS f).1 g 0 z5 hg f1 f2 with e1 | ⟨p, e, q, e1, e2, e3⟩ | ⟨x, y, z6, e1, e2, g1, g2, g3⟩
  · exact .out (by simp only [e1])
  · exact .err p e q (by simp only [e1]) (by simp only [e2]) e3
  simp only [e1, e2]
  exact .ok _ _ z6 rfl rfl (.mk _ _ _ _ _ _ _ (h.at' he) (d1.append (.one g1))) g2 g3
inductive RelP {α : Type} (S : Nat → Nat → Prop) (A : α → α → Prop) (a b : Except PErr α) : Prop
  | out : a = .error outE → RelP S A a b
  | err (p : Nat) (e : Int) (q : Nat) : a = .error (p, e) → b = .error (q, e) → S p q → RelP S A a b
  | ok (x y : α) : a = .ok x → b = .ok y → A x y → RelP S A a b
theorem parts_sim : ∀ (f g : Nat) (acc bcc : List Item) (z : Z), f ≤ g → ZS S z → EndL (Z.l z) → SimL S acc bcc → RelP S (SimL S) (partsS f acc (Z.l z)) (partsS g bcc (Z.r z))
  | 0, _, _, _, _, _, _, _, _ => .out (by unfold partsS; rfl)
  | f + 1, g, acc, bcc, z, hg, h, he, ha => by
    obtain ⟨g, rfl⟩ : ∃ g', g = g' + 1 := ⟨g - 1, by omega⟩
    unfold partsS
    rw [h.kind, h.isT]
    by_cases hk : nowKind (Z.l z) = 5
    · rw [if_pos hk, if_pos hk]
      exact .ok _ _ rfl rfl ha
    rw [if_neg hk, if_neg hk]
    have c : RelR S (SimI S) (if isT [118, 97, 114] (Z.l z) = true then arrayS (Z.l z) else funcS f (Z.l z)) (if isT [118, 97, 114] (Z.l z) = true then arrayS (Z.r z) else funcS g (Z.r z)) := by
      split
      · exact array_sim h he
      · exact func_sim (by omega) h he
    rcases c with e1 | ⟨p, e, q, e1, e2, e3⟩ | ⟨x, y, z1, e1, e2, a1, a2, a3⟩
    · exact .out (by simp only [e1])
    · exact .err p e q (by simp only [e1]) (by simp only [e2]) e3
    simp only [e1, e2]
    exact parts_sim f g _ _ z1 (by omega) a2 a3 (ha.append (.one a1))
/-- ONLY KINDS, TEXTS AND NUMBERS MATTER. -/
theorem prog_sim {z : Z} (h : ZS S z) (he : EndL (Z.l z)) : RelP S (SimI S) (progS (Z.l z)) (progS (Z.r z)) := by
  have hlen : (Z.l z).length = (Z.r z).length := by simp [Z.l, Z.r]
  unfold progS
  rcases parts_sim (16 * (Z.l z).length + 16) (16 * (Z.r z).length + 16) [] [] z (by omega) h he .nil with e1 | ⟨p, e, q, e1, e2, e3⟩ | ⟨x, y, e1, e2, e3⟩
  · exact .out (by simp only [e1])
  · exact .err p e q (by simp only [e1]) (by simp only [e2]) e3
  · simp only [e1, e2]
    exact .ok _ _ rfl rfl (.mk _ _ _ _ _ _ _ (h.at' he) e3)
end Go.Proofs.YtkkeocnnecegbaaGreatDoor

/- Plain law of parse: a result hangs on the tokens that were passed and the next one; an error on those up to its own. By an AI agent. -/
namespace Go.Proofs.YtkkeocnnecegbaaGreatDoor

inductive LocR {α : Type} (P : List Tok → Except PErr (α × List Tok)) (ts : List Tok) : Prop
  | out : P ts = .error outE → LocR P ts
  | err (pre : List Tok) (t : Tok) (post : List Tok) (e : Int) : ts = pre ++ t :: post → (e = 140 ∨ (e = 141 ∧ t.kind ≠ 5)) → (∀ post', P (pre ++ t :: post') = .error (t.at', e)) → LocR P ts
  | ok (x : α) (c r : List Tok) : ts = c ++ r → (∀ r', r'.head? = r.head? → P (c ++ r') = .ok (x, r')) → LocR P ts
def bnd {α β : Type} (a : Except PErr (α × List Tok)) (F : α → List Tok → Except PErr (β × List Tok)) : Except PErr (β × List Tok) :=
  match a with
  | .error e => .error e
  | .ok (x, r) => F x r
def lift (a : Except PErr (List Tok)) : Except PErr (Unit × List Tok) :=
  match a with
  | .error e => .error e
  | .ok r => .ok ((), r)
theorem head_app (c : List Tok) {a b : List Tok} (h : a.head? = b.head?) : (c ++ a).head? = (c ++ b).head? := by cases c <;> simp [h]
theorem head_mid (pre : List Tok) (t : Tok) (a b : List Tok) : (pre ++ t :: a).head? = (pre ++ t :: b).head? := by cases pre <;> simp
theorem LocR.bind {α β : Type} {P1 : List Tok → Except PErr (α × List Tok)} {P2 : α → List Tok → Except PErr (β × List Tok)} {P : List Tok → Except PErr (β × List Tok)} {ts : List Tok}
    (h1 : LocR P1 ts) (hP : ∀ ts', ts'.head? = ts.head? → P ts' = bnd (P1 ts') P2) (h2 : ∀ x r, P1 ts = .ok (x, r) → LocR (P2 x) r) : LocR P ts := by
  rcases h1 with e1 | ⟨pre, t, post, e, e1, e2, e3⟩ | ⟨x, c, r, e1, e2⟩
  · exact .out (by rw [hP _ rfl, e1]; rfl)
  · exact .err pre t post e e1 e2 (fun post' => by rw [hP _ (by rw [e1]; exact head_mid _ _ _ _), e3]; rfl)
  · rcases h2 x r (by rw [e1]; exact e2 r rfl) with f1 | ⟨pre, t, post, e, f1, f2, f3⟩ | ⟨y, d, r2, f1, f2⟩
    · exact .out (by rw [hP _ rfl, e1, e2 r rfl]; exact f1)
    · refine .err (c ++ pre) t post e (by rw [e1, f1, List.append_assoc]) f2 (fun post' => ?_)
      rw [List.append_assoc, hP _ (by rw [e1, f1]; exact head_app c (head_mid _ _ _ _)), e2 _ (by rw [f1]; exact head_mid _ _ _ _)]
      exact f3 post'
    · refine .ok y (c ++ d) r2 (by rw [e1, f1, List.append_assoc]) (fun r' hr => ?_)
      rw [List.append_assoc, hP _ (by rw [e1, f1]; exact head_app c (head_app d hr)), e2 _ (by rw [f1]; exact head_app d hr)]
      exact f2 r' hr
theorem LocR.congr {α : Type} {P Q : List Tok → Except PErr (α × List Tok)} {ts : List Tok} (h : LocR Q ts) (hP : ∀ ts', ts'.head? = ts.head? → P ts' = Q ts') : LocR P ts := by
  rcases h with e1 | ⟨pre, t, post, e, e1, e2, e3⟩ | ⟨x, c, r, e1, e2⟩
  · exact .out (by rw [hP _ rfl, e1])
  · exact .err pre t post e e1 e2 (fun post' => by rw [hP _ (by rw [e1]; exact head_mid _ _ _ _), e3])
  · exact .ok x c r e1 (fun r' hr => by rw [hP _ (by rw [e1]; exact head_app c hr), e2 _ hr])
theorem LocR.pure {α : Type} (x : α) (ts : List Tok) : LocR (fun r => .ok (x, r)) ts := .ok x [] ts rfl (fun _ _ => rfl)
theorem hd_kind {a b : List Tok} (h : a.head? = b.head?) : nowKind a = nowKind b := by cases a <;> cases b <;> simp_all [nowKind]
theorem hd_text {a b : List Tok} (h : a.head? = b.head?) : nowText a = nowText b := by cases a <;> cases b <;> simp_all [nowText]
theorem hd_at {a b : List Tok} (h : a.head? = b.head?) : nowAt a = nowAt b := by cases a <;> cases b <;> simp_all [nowAt]
theorem hd_n {a b : List Tok} (h : a.head? = b.head?) : nowN a = nowN b := by cases a <;> cases b <;> simp_all [nowN]
theorem hd_is {a b : List Tok} (h : a.head? = b.head?) (x : List UInt8) : isT x a = isT x b := by unfold isT; rw [hd_kind h, hd_text h]
theorem hd_mark {a b : List Tok} (h : a.head? = b.head?) (of : Nat) : markOf of a = markOf of b := by
  have : ∀ (l : List (List UInt8)) (n : Nat), markFrom of a n l = markFrom of b n l := by
    intro l
    induction l with
    | nil => intro n; rfl
    | cons m r ih => intro n; unfold markFrom; rw [hd_is h, ih]
  exact this _ _
theorem hd_word {a b : List Tok} (h : a.head? = b.head?) : wordKind a = wordKind b := by unfold wordKind; rw [hd_kind h, hd_text h]

/-- Passing one. -/
def skipT (ts : List Tok) : Except PErr (Unit × List Tok) := .ok ((), ts.tail)
theorem skip_loc {ts : List Tok} (he : EndL ts) : LocR skipT ts := by
  cases ts with
  | nil => cases he
  | cons t r => exact .ok () [t] r rfl (fun _ _ => rfl)
theorem fail_loc {α : Type} {P : List Tok → Except PErr (α × List Tok)} {ts : List Tok} (he : EndL ts) (h : ∀ ts', ts'.head? = ts.head? → P ts' = .error (nowAt ts', 140)) : LocR P ts := by
  cases ts with
  | nil => cases he
  | cons t r => exact .err [] t r 140 rfl (Or.inl rfl) (fun post' => h _ rfl)
theorem take_loc {ts : List Tok} (he : EndL ts) (x : List UInt8) : LocR (fun ts => lift (takeT x ts)) ts := by
  by_cases hi : isT x ts = true
  · refine (skip_loc he).congr (fun ts' h => ?_)
    simp only [takeT, hd_is h, hi, if_true]; rfl
  · refine fail_loc he (fun ts' h => ?_)
    simp only [takeT, hd_is h, hi]; rfl
theorem open_loc {ts : List Tok} (he : EndL ts) (x : List UInt8) (d : Nat) : LocR (fun ts => lift (openT x d ts)) ts := by
  by_cases hi : (isT x ts && decide (64 ≤ d)) = true
  · cases ts with
    | nil => cases he
    | cons t r =>
      refine .err [] t r 141 rfl (Or.inr ⟨rfl, ?_⟩) (fun post' => ?_)
      · simp only [Bool.and_eq_true] at hi
        have := isT_kind hi.1
        exact this
      · simp only [List.nil_append, openT, hd_is (show (t :: post').head? = (t :: r).head? from rfl), hi, if_true]; rfl
  · refine (take_loc he x).congr (fun ts' h => ?_)
    simp only [openT, hd_is h, hi]; rfl
theorem name_loc {ts : List Tok} (he : EndL ts) : LocR nameT ts := by
  by_cases hi : nowKind ts = 1
  · cases ts with
    | nil => cases he
    | cons t r =>
      refine .ok t.text [t] r rfl (fun r' _ => ?_)
      have hk : nowKind ([t] ++ r') = 1 := hi
      unfold nameT; rw [if_pos hk]; rfl
  · refine fail_loc he (fun ts' h => ?_)
    simp only [nameT, hd_kind h, hi, if_false]
theorem lift_ok {a : Except PErr (List Tok)} {u : Unit} {r : List Tok} (h : lift a = .ok (u, r)) : a = .ok r := by
  cases a with
  | error e => cases h
  | ok s => injection h with h; injection h with _ h; rw [h]

theorem locX : ∀ f : Nat,
    (∀ of d ts, EndL ts → LocR (binS f of d) ts) ∧ (∀ of d a x ts, EndL ts → LocR (loopS f of d a x) ts) ∧
    (∀ d ts, EndL ts → LocR (unS f d) ts) ∧ (∀ d ts, EndL ts → LocR (facS f d) ts)
  | 0 => ⟨fun _ _ _ _ => .out (by unfold binS; rfl), fun _ _ _ _ _ _ => .out (by unfold loopS; rfl), fun _ _ _ => .out (by unfold unS; rfl), fun _ _ _ => .out (by unfold facS; rfl)⟩
  | f + 1 => by
    obtain ⟨hb, hl, hu, hf⟩ := locX f
    obtain ⟨ob, ol, ou, of'⟩ := expr_ok f
    refine ⟨?_, ?_, ?_, ?_⟩
    · intro of d ts he
      by_cases ho : 3 < of
      · refine (hu d ts he).congr (fun ts' h => ?_)
        unfold binS; rw [if_pos ho]
      · refine (hb (of + 1) d ts he).bind (P2 := fun x r => loopS f of d (nowAt ts) x r) (fun ts' h => ?_) (fun x r h => hl _ _ _ _ _ (ob _ _ _ _ _ he h).1)
        conv => lhs; unfold binS
        rw [if_neg ho, hd_at h]
        cases binS f (of + 1) d ts' <;> rfl
    · intro of d a x ts he
      by_cases hm : markOf of ts = 0
      · refine (LocR.pure x ts).congr (fun ts' h => ?_)
        unfold loopS; rw [hd_mark h, if_pos hm]
      · refine (skip_loc he).bind (P2 := fun _ r => bnd (binS f (of + 1) d r) (fun y r' => loopS f of d a (.mk 21 [] (markOf of ts) a [x, y]) r')) (fun ts' h => ?_) (fun u r h => ?_)
        · conv => lhs; unfold loopS
          rw [hd_mark h, if_neg hm]
          show _ = bnd (binS f (of + 1) d ts'.tail) _
          cases binS f (of + 1) d ts'.tail <;> rfl
        · have hr : EndL r := by
            injection h with h; injection h with _ h; rw [← h]; exact (markOf_tail he hm).1
          exact (hb (of + 1) d r hr).bind (fun _ _ => rfl) (fun y r' h => hl _ _ _ _ _ (ob _ _ _ _ _ hr h).1)
    · intro d ts he
      have un : ∀ (m : List UInt8) (n : Int), LocR (fun ts' => bnd (lift (openT m d ts')) (fun _ r => bnd (unS f (d + 1) r) (fun x r' => .ok (Item.mk 20 [] n (nowAt ts) [x], r')))) ts := by
        intro m n
        refine (open_loc he m d).bind (fun _ _ => rfl) (fun u r h => ?_)
        have hr := (openT_ok he (lift_ok h)).1
        exact (hu (d + 1) r hr).bind (fun _ _ => rfl) (fun x r' _ => LocR.pure _ r')
      by_cases h1 : isT [45] ts = true
      · refine (un [45] 1).congr (fun ts' h => ?_)
        conv => lhs; unfold unS
        rw [hd_is h, if_pos h1, hd_at h]
        cases openT [45] d ts' with
        | error e => rfl
        | ok r =>
          simp only [lift, bnd]
          try (cases unS f (d + 1) r <;> rfl)
      by_cases h2 : isT [33] ts = true
      · refine (un [33] 2).congr (fun ts' h => ?_)
        conv => lhs; unfold unS
        rw [hd_is h, if_neg h1, hd_is h, if_pos h2, hd_at h]
        cases openT [33] d ts' with
        | error e => rfl
        | ok r =>
          simp only [lift, bnd]
          try (cases unS f (d + 1) r <;> rfl)
      · refine (hf d ts he).congr (fun ts' h => ?_)
        conv => lhs; unfold unS
        rw [hd_is h, if_neg h1, hd_is h, if_neg h2]
    · intro d ts he
      by_cases k3 : nowKind ts = 3
      · refine (skip_loc he).bind (P2 := fun _ r => .ok (.mk 17 [] (nowN ts) (nowAt ts) [], r)) (fun ts' h => ?_) (fun u r _ => LocR.pure _ r)
        conv => lhs; unfold facS
        rw [hd_kind h, if_pos k3, hd_n h, hd_at h]; rfl
      by_cases k1 : nowKind ts = 1
      · refine (skip_loc he).bind (P2 := fun _ r => if isT [91] r = true then bnd (lift (openT [91] d r)) (fun _ r => bnd (binS f 1 (d + 1) r) (fun x r => bnd (lift (takeT [93] r)) (fun _ r => .ok (.mk 19 (nowText ts) 0 (nowAt ts) [x], r)))) else .ok (.mk 18 (nowText ts) 0 (nowAt ts) [], r)) (fun ts' h => ?_) (fun u r h => ?_)
        · conv => lhs; unfold facS
          rw [hd_kind h, if_neg k3, if_pos k1, hd_text h, hd_at h]
          show _ = if isT [91] ts'.tail = true then _ else _
          split
          · cases openT [91] d ts'.tail with
            | error e => rfl
            | ok r =>
              simp only [lift, bnd]
              cases binS f 1 (d + 1) r with
              | error e => rfl
              | ok v =>
                obtain ⟨x, r2⟩ := v
                simp only []
                cases takeT [93] r2 <;> rfl
          · rfl
        · have hr : EndL r := by
            injection h with h; injection h with _ h; rw [← h]; exact (he.tail (by omega)).1
          by_cases hi : isT [91] r = true
          · refine LocR.congr (Q := fun r => bnd (lift (openT [91] d r)) (fun _ r => bnd (binS f 1 (d + 1) r) (fun x r => bnd (lift (takeT [93] r)) (fun _ r => .ok (.mk 19 (nowText ts) 0 (nowAt ts) [x], r))))) ?_ (fun r' h => by simp only [hd_is h, hi, if_true])
            refine (open_loc hr [91] d).bind (fun _ _ => rfl) (fun u r1 h => ?_)
            have h1 := (openT_ok hr (lift_ok h)).1
            refine (hb 1 (d + 1) r1 h1).bind (fun _ _ => rfl) (fun x r2 h => ?_)
            have h2 := (ob _ _ _ _ _ h1 h).1
            exact (take_loc h2 [93]).bind (fun _ _ => rfl) (fun u r3 _ => LocR.pure _ r3)
          · exact (LocR.pure _ r).congr (fun r' h => by simp only [hd_is h, hi]; rfl)
      · refine LocR.congr (Q := fun r => bnd (lift (openT [40] d r)) (fun _ r => bnd (binS f 1 (d + 1) r) (fun x r => bnd (lift (takeT [41] r)) (fun _ r => .ok (x, r))))) ?_ (fun ts' h => ?_)
        · refine (open_loc he [40] d).bind (fun _ _ => rfl) (fun u r1 h => ?_)
          have h1 := (openT_ok he (lift_ok h)).1
          refine (hb 1 (d + 1) r1 h1).bind (fun _ _ => rfl) (fun x r2 h => ?_)
          have h2 := (ob _ _ _ _ _ h1 h).1
          exact (take_loc h2 [41]).bind (fun _ _ => rfl) (fun u r3 _ => LocR.pure _ r3)
        · conv => lhs; unfold facS
          rw [hd_kind h, if_neg k3, if_neg k1]
          cases openT [40] d ts' with
          | error e => rfl
          | ok r =>
            simp only [lift, bnd]
            cases binS f 1 (d + 1) r with
            | error e => rfl
            | ok v =>
              obtain ⟨x, r2⟩ := v
              simp only []
              cases takeT [41] r2 <;> rfl

theorem bin_loc {f d : Nat} {ts : List Tok} (he : EndL ts) : LocR (binS f 1 d) ts := (locX f).1 1 d ts he
theorem ends_loc {f d : Nat} {ts : List Tok} (he : EndL ts) : LocR (endsS f d) ts := by
  refine (bin_loc (f := f) (d := d) he).bind (P2 := fun x r => bnd (lift (takeT [59] r)) (fun _ r' => .ok (x, r'))) (fun ts' h => ?_) (fun x r h => (take_loc (bin_ok he h).1 [59]).bind (fun _ _ => rfl) (fun u r3 _ => LocR.pure _ r3))
  unfold endsS
  cases binS f 1 d ts' with
  | error e => rfl
  | ok v =>
    obtain ⟨x, r⟩ := v
    simp only [bnd, lift]
    cases takeT [59] r <;> rfl
theorem args_loc : ∀ (f d : Nat) (b : Bool) (acc : List Item) (ts : List Tok), EndL ts → LocR (argsS f d b acc) ts
  | 0, _, _, _, _, _ => .out (by unfold argsS; rfl)
  | f + 1, d, b, acc, ts, he => by
    by_cases hi : isT [41] ts = true
    · refine (LocR.pure acc ts).congr (fun ts' h => ?_)
      unfold argsS; rw [hd_is h, if_pos hi]
    · have c : LocR (fun ts' => lift (if b = true then .ok ts' else takeT [44] ts')) ts := by
        cases b
        · exact take_loc he [44]
        · exact LocR.pure () ts
      refine c.bind (P2 := fun _ r => bnd (binS f 1 d r) (fun x r' => argsS f d false (acc ++ [x]) r')) (fun ts' h => ?_) (fun u r h => ?_)
      · conv => lhs; unfold argsS
        rw [hd_is h, if_neg hi]
        cases (if b = true then Except.ok ts' else takeT [44] ts') with
        | error e => rfl
        | ok r =>
          simp only [lift, bnd]
          try (cases binS f 1 d r <;> rfl)
      · have hr : EndL r := by
          have h := lift_ok h
          cases b
          · exact (takeT_ok he h).1
          · injection h with h; rw [← h]; exact he
        exact (bin_loc hr).bind (fun _ _ => rfl) (fun x r' h => args_loc f d false _ _ (bin_ok hr h).1)
theorem pars_loc : ∀ (f : Nat) (b : Bool) (acc : List Item) (ts : List Tok), EndL ts → LocR (parsS f b acc) ts
  | 0, _, _, _, _ => .out (by unfold parsS; rfl)
  | f + 1, b, acc, ts, he => by
    by_cases hi : isT [41] ts = true
    · refine (LocR.pure acc ts).congr (fun ts' h => ?_)
      unfold parsS; rw [hd_is h, if_pos hi]
    · have c : LocR (fun ts' => lift (if b = true then .ok ts' else takeT [44] ts')) ts := by
        cases b
        · exact take_loc he [44]
        · exact LocR.pure () ts
      refine c.bind (P2 := fun _ r => bnd (nameT r) (fun x r' => parsS f false (acc ++ [.mk 4 x 0 (nowAt r) []]) r')) (fun ts' h => ?_) (fun u r h => ?_)
      · conv => lhs; unfold parsS
        rw [hd_is h, if_neg hi]
        cases (if b = true then Except.ok ts' else takeT [44] ts') with
        | error e => rfl
        | ok r =>
          simp only [lift, bnd]
          try (cases nameT r <;> rfl)
      · have hr : EndL r := by
          have h := lift_ok h
          cases b
          · exact (takeT_ok he h).1
          · injection h with h; rw [← h]; exact he
        exact (name_loc hr).bind (P2 := fun x r' => parsS f false (acc ++ [.mk 4 x 0 (nowAt r) []]) r') (fun ts' h => by rw [hd_at h]) (fun x r' h => pars_loc f false _ _ (nameT_ok hr h).1)

theorem declare_loc {f d a : Nat} {ts : List Tok} (he : EndL ts) : LocR (declareS f d a) ts := by
  refine LocR.congr (Q := fun ts => bnd (nameT ts) (fun t r => bnd (lift (takeT [61] r)) (fun _ r => bnd (endsS f d r) (fun x r => .ok (.mk 6 t 0 a [x], r))))) ?_ (fun ts' _ => ?_)
  · refine (name_loc he).bind (fun _ _ => rfl) (fun t r1 h => ?_)
    have h1 := (nameT_ok he h).1
    refine (take_loc h1 [61]).bind (fun _ _ => rfl) (fun u r2 h => ?_)
    have h2 := (takeT_ok h1 (lift_ok h)).1
    exact (ends_loc h2).bind (fun _ _ => rfl) (fun x r3 _ => LocR.pure _ r3)
  · unfold declareS
    cases nameT ts' with
    | error e => rfl
    | ok v =>
      obtain ⟨t, r⟩ := v
      simp only [bnd, lift]
      cases takeT [61] r with
      | error e => rfl
      | ok r2 =>
        simp only []
        try (cases endsS f d r2 <;> rfl)
theorem read_loc {a : Nat} {ts : List Tok} (he : EndL ts) : LocR (readS a) ts := by
  refine LocR.congr (Q := fun ts => bnd (nameT ts) (fun t r => bnd (lift (takeT [59] r)) (fun _ r => .ok (.mk 14 t 0 a [], r)))) ?_ (fun ts' _ => ?_)
  · refine (name_loc he).bind (fun _ _ => rfl) (fun t r1 h => ?_)
    have h1 := (nameT_ok he h).1
    exact (take_loc h1 [59]).bind (fun _ _ => rfl) (fun u r2 _ => LocR.pure _ r2)
  · unfold readS
    cases nameT ts' with
    | error e => rfl
    | ok v =>
      obtain ⟨t, r⟩ := v
      simp only [bnd, lift]
      cases takeT [59] r <;> rfl

theorem call_loc {f d a : Nat} {ts : List Tok} (he : EndL ts) : LocR (callS f d a) ts := by
  refine LocR.congr (Q := fun ts => bnd (nameT ts) (fun t r => bnd (lift (takeT [61] r)) (fun _ r1 => bnd (nameT r1) (fun u r => bnd (lift (takeT [40] r)) (fun _ r => bnd (argsS f d true [] r) (fun l r => bnd (lift (takeT [41] r)) (fun _ r => bnd (lift (takeT [59] r)) (fun _ r => .ok (.mk 15 t 0 a (.mk 16 u 0 (nowAt r1) [] :: l), r))))))))) ?_ (fun ts' _ => ?_)
  · refine (name_loc he).bind (fun _ _ => rfl) (fun t r1 h => ?_)
    have h1 := (nameT_ok he h).1
    refine (take_loc h1 [61]).bind (fun _ _ => rfl) (fun u r2 h => ?_)
    have h2 := (takeT_ok h1 (lift_ok h)).1
    refine (name_loc h2).bind (P2 := fun u r => bnd (lift (takeT [40] r)) (fun _ r => bnd (argsS f d true [] r) (fun l r => bnd (lift (takeT [41] r)) (fun _ r => bnd (lift (takeT [59] r)) (fun _ r => .ok (.mk 15 t 0 a (.mk 16 u 0 (nowAt r2) [] :: l), r)))))) (fun ts' h => by rw [hd_at h]) (fun u r3 h => ?_)
    have h3 := (nameT_ok h2 h).1
    refine (take_loc h3 [40]).bind (fun _ _ => rfl) (fun _ r4 h => ?_)
    have h4 := (takeT_ok h3 (lift_ok h)).1
    refine (args_loc f d true [] r4 h4).bind (fun _ _ => rfl) (fun l r5 h => ?_)
    have h5 := (args_ok _ _ _ _ _ _ _ h4 h).1
    refine (take_loc h5 [41]).bind (fun _ _ => rfl) (fun _ r6 h => ?_)
    have h6 := (takeT_ok h5 (lift_ok h)).1
    exact (take_loc h6 [59]).bind (fun _ _ => rfl) (fun _ r7 _ => LocR.pure _ r7)
  · unfold callS
    cases nameT ts' with
    | error e => rfl
    | ok v =>
      obtain ⟨t, r⟩ := v
      simp only [bnd, lift]
      cases takeT [61] r with
      | error e => rfl
      | ok r2 =>
        simp only []
        cases nameT r2 with
        | error e => rfl
        | ok v =>
          obtain ⟨u, r3⟩ := v
          simp only []
          cases takeT [40] r3 with
          | error e => rfl
          | ok r4 =>
            simp only []
            cases argsS f d true [] r4 with
            | error e => rfl
            | ok v =>
              obtain ⟨l, r5⟩ := v
              simp only []
              cases takeT [41] r5 with
              | error e => rfl
              | ok r6 =>
                simp only []
                cases takeT [59] r6 <;> rfl

theorem assign_loc {f d : Nat} {ts : List Tok} (he : EndL ts) : LocR (assignS f d) ts := by
  refine (name_loc he).bind (P2 := fun t r => if isT [91] r = true then bnd (lift (openT [91] d r)) (fun _ r => bnd (binS f 1 (d + 1) r) (fun x r => bnd (lift (takeT [93] r)) (fun _ r => bnd (lift (takeT [61] r)) (fun _ r => bnd (endsS f d r) (fun y r => .ok (.mk 8 t 0 (nowAt ts) [x, y], r)))))) else bnd (lift (takeT [61] r)) (fun _ r => bnd (endsS f d r) (fun x r => .ok (.mk 7 t 0 (nowAt ts) [x], r)))) (fun ts' h => ?_) (fun t r1 h => ?_)
  · unfold assignS
    rw [hd_at h]
    cases nameT ts' with
    | error e => rfl
    | ok v =>
      obtain ⟨t, r⟩ := v
      simp only [bnd, lift]
      split
      · cases openT [91] d r with
        | error e => rfl
        | ok r2 =>
          simp only []
          cases binS f 1 (d + 1) r2 with
          | error e => rfl
          | ok v =>
            obtain ⟨x, r3⟩ := v
            simp only []
            cases takeT [93] r3 with
            | error e => rfl
            | ok r4 =>
              simp only []
              cases takeT [61] r4 with
              | error e => rfl
              | ok r5 =>
                simp only []
                try (cases endsS f d r5 <;> rfl)
      · cases takeT [61] r with
        | error e => rfl
        | ok r5 =>
          simp only []
          try (cases endsS f d r5 <;> rfl)
  · have h1 := (nameT_ok he h).1
    by_cases hi : isT [91] r1 = true
    · refine LocR.congr (Q := fun r => bnd (lift (openT [91] d r)) (fun _ r => bnd (binS f 1 (d + 1) r) (fun x r => bnd (lift (takeT [93] r)) (fun _ r => bnd (lift (takeT [61] r)) (fun _ r => bnd (endsS f d r) (fun y r => .ok (.mk 8 t 0 (nowAt ts) [x, y], r))))))) ?_ (fun r' h => by simp only [hd_is h, hi, if_true])
      refine (open_loc h1 [91] d).bind (fun _ _ => rfl) (fun u r2 h => ?_)
      have h2 := (openT_ok h1 (lift_ok h)).1
      refine (bin_loc (f := f) (d := d + 1) h2).bind (fun _ _ => rfl) (fun x r3 h => ?_)
      have h3 := (bin_ok h2 h).1
      refine (take_loc h3 [93]).bind (fun _ _ => rfl) (fun _ r4 h => ?_)
      have h4 := (takeT_ok h3 (lift_ok h)).1
      refine (take_loc h4 [61]).bind (fun _ _ => rfl) (fun _ r5 h => ?_)
      have h5 := (takeT_ok h4 (lift_ok h)).1
      exact (ends_loc h5).bind (fun _ _ => rfl) (fun y r6 _ => LocR.pure _ r6)
    · refine LocR.congr (Q := fun r => bnd (lift (takeT [61] r)) (fun _ r => bnd (endsS f d r) (fun x r => .ok (.mk 7 t 0 (nowAt ts) [x], r)))) ?_ (fun r' h => by simp only [hd_is h, hi]; rfl)
      refine (take_loc h1 [61]).bind (fun _ _ => rfl) (fun _ r5 h => ?_)
      have h5 := (takeT_ok h1 (lift_ok h)).1
      exact (ends_loc h5).bind (fun _ _ => rfl) (fun y r6 _ => LocR.pure _ r6)

theorem locS : ∀ f : Nat,
    (∀ d ts, EndL ts → LocR (blockS f d) ts) ∧ (∀ d acc ts, EndL ts → LocR (stmtsS f d acc) ts) ∧ (∀ d a ts, EndL ts → LocR (chooseS f d a) ts) ∧
    (∀ d a ts, EndL ts → LocR (forS f d a) ts) ∧ (∀ d ts, EndL ts → LocR (stmtS f d) ts)
  | 0 => ⟨fun _ _ _ => .out (by unfold blockS; rfl), fun _ _ _ _ => .out (by unfold stmtsS; rfl), fun _ _ _ _ => .out (by unfold chooseS; rfl), fun _ _ _ _ => .out (by unfold forS; rfl), fun _ _ _ => .out (by unfold stmtS; rfl)⟩
  | f + 1 => by
    obtain ⟨hb, hl, hc, hf, hs⟩ := locS f
    obtain ⟨ob, ol, oc, of', os⟩ := stmt_ok f
    refine ⟨?_, ?_, ?_, ?_, ?_⟩
    · intro d ts he
      refine (open_loc he [123] d).bind (P2 := fun _ r => bnd (stmtsS f (d + 1) [] r) (fun l r => bnd (lift (takeT [125] r)) (fun _ r => .ok (.mk 5 [] 0 (nowAt ts) l, r)))) (fun ts' h => ?_) (fun u r1 h => ?_)
      · conv => lhs; unfold blockS
        rw [hd_at h]
        cases openT [123] d ts' with
        | error e => rfl
        | ok r =>
          simp only [bnd, lift]
          cases stmtsS f (d + 1) [] r with
          | error e => rfl
          | ok v =>
            obtain ⟨l, r2⟩ := v
            simp only []
            cases takeT [125] r2 <;> rfl
      · have h1 := (openT_ok he (lift_ok h)).1
        refine (hl (d + 1) [] r1 h1).bind (fun _ _ => rfl) (fun l r2 h => ?_)
        have h2 := (ol _ _ _ _ _ h1 h).1
        exact (take_loc h2 [125]).bind (fun _ _ => rfl) (fun _ r3 _ => LocR.pure _ r3)
    · intro d acc ts he
      by_cases hi : isT [125] ts = true
      · refine (LocR.pure acc ts).congr (fun ts' h => ?_)
        unfold stmtsS; rw [hd_is h, if_pos hi]
      · refine (hs d ts he).bind (P2 := fun x r => stmtsS f d (acc ++ [x]) r) (fun ts' h => ?_) (fun x r h => hl _ _ _ (os _ _ _ _ he h).1)
        conv => lhs; unfold stmtsS
        rw [hd_is h, if_neg hi]
        cases stmtS f d ts' <;> rfl
    · intro d a ts he
      refine (bin_loc (f := f) (d := d) he).bind (P2 := fun x r => bnd (blockS f d r) (fun b r => if isT [101, 108, 115, 101] r = true then bnd (blockS f d r.tail) (fun c r => .ok (.mk 9 [] 0 a [x, b, c], r)) else .ok (.mk 9 [] 0 a [x, b], r))) (fun ts' h => ?_) (fun x r1 h => ?_)
      · conv => lhs; unfold chooseS
        cases binS f 1 d ts' with
        | error e => rfl
        | ok v =>
          obtain ⟨x, r⟩ := v
          simp only [bnd]
          cases blockS f d r with
          | error e => rfl
          | ok v =>
            obtain ⟨b, r2⟩ := v
            simp only []
            try (split <;> first | rfl | (cases blockS f d r2.tail <;> rfl))
      · have h1 := (bin_ok he h).1
        refine (hb d r1 h1).bind (fun _ _ => rfl) (fun b r2 h => ?_)
        have h2 := (ob _ _ _ _ h1 h).1
        by_cases hi : isT [101, 108, 115, 101] r2 = true
        · refine (skip_loc h2).bind (P2 := fun _ r => bnd (blockS f d r) (fun c r => .ok (.mk 9 [] 0 a [x, b, c], r))) (fun r' h => by rw [hd_is h, if_pos hi]; rfl) (fun u r3 h => ?_)
          have h3 : EndL r3 := by
            injection h with h; injection h with _ h; rw [← h]; exact (h2.tail (isT_kind hi)).1
          exact (hb d r3 h3).bind (fun _ _ => rfl) (fun c r4 _ => LocR.pure _ r4)
        · exact (LocR.pure _ r2).congr (fun r' h => by rw [hd_is h, if_neg hi])
    · intro d a ts he
      refine (bin_loc (f := f) (d := d) he).bind (P2 := fun x r => bnd (blockS f d r) (fun b r => .ok (.mk 10 [] 0 a [x, b], r))) (fun ts' h => ?_) (fun x r1 h => (hb d r1 (bin_ok he h).1).bind (fun _ _ => rfl) (fun b r2 _ => LocR.pure _ r2))
      conv => lhs; unfold forS
      cases binS f 1 d ts' with
      | error e => rfl
      | ok v =>
        obtain ⟨x, r⟩ := v
        simp only [bnd]
        try (cases blockS f d r <;> rfl)
    · intro d ts he
      by_cases h0 : wordKind ts = 0
      · refine (assign_loc (f := f) (d := d) he).congr (fun ts' h => ?_)
        unfold stmtS; rw [hd_word h, if_pos h0]
      have ht := (wordKind_tail he h0).1
      refine (skip_loc he).bind (P2 := fun _ r => if wordKind ts = 6 then declareS f d (nowAt ts) r else if wordKind ts = 9 then chooseS f d (nowAt ts) r else if wordKind ts = 10 then forS f d (nowAt ts) r else if wordKind ts = 14 then readS (nowAt ts) r else if wordKind ts = 15 then callS f d (nowAt ts) r else bnd (endsS f d r) (fun x r => .ok (.mk (wordKind ts) [] 0 (nowAt ts) [x], r))) (fun ts' h => ?_) (fun u r h => ?_)
      · conv => lhs; unfold stmtS
        rw [hd_word h, if_neg h0, hd_at h]
        simp only [skipT, bnd]
        cases endsS f d ts'.tail <;> rfl
      · have hr : EndL r := by
          injection h with h; injection h with _ h; rw [← h]; exact ht
        split
        · exact declare_loc hr
        split
        · exact hc d _ r hr
        split
        · exact hf d _ r hr
        split
        · exact read_loc hr
        split
        · exact call_loc hr
        exact (ends_loc hr).bind (fun _ _ => rfl) (fun x r1 _ => LocR.pure _ r1)

theorem func_loc {f : Nat} {ts : List Tok} (he : EndL ts) : LocR (funcS f) ts := by
  refine (take_loc he [102, 117, 110, 99]).bind (P2 := fun _ r => bnd (nameT r) (fun t r => bnd (lift (takeT [40] r)) (fun _ r => bnd (parsS f true [] r) (fun l r => bnd (lift (takeT [41] r)) (fun _ r => bnd (blockS f 0 r) (fun b r => .ok (.mk 3 t 0 (nowAt ts) (l ++ [b]), r))))))) (fun ts' h => ?_) (fun u r1 h => ?_)
  · unfold funcS
    rw [hd_at h]
    cases takeT [102, 117, 110, 99] ts' with
    | error e => rfl
    | ok r =>
      simp only [bnd, lift]
      cases nameT r with
      | error e => rfl
      | ok v =>
        obtain ⟨t, r2⟩ := v
        simp only []
        cases takeT [40] r2 with
        | error e => rfl
        | ok r3 =>
          simp only []
          cases parsS f true [] r3 with
          | error e => rfl
          | ok v =>
            obtain ⟨l, r4⟩ := v
            simp only []
            cases takeT [41] r4 with
            | error e => rfl
            | ok r5 =>
              simp only []
              try (cases blockS f 0 r5 <;> rfl)
  · have h1 := (takeT_ok he (lift_ok h)).1
    refine (name_loc h1).bind (fun _ _ => rfl) (fun t r2 h => ?_)
    have h2 := (nameT_ok h1 h).1
    refine (take_loc h2 [40]).bind (fun _ _ => rfl) (fun _ r3 h => ?_)
    have h3 := (takeT_ok h2 (lift_ok h)).1
    refine (pars_loc f true [] r3 h3).bind (fun _ _ => rfl) (fun l r4 h => ?_)
    have h4 := (pars_ok _ _ _ _ _ _ h3 h).1
    refine (take_loc h4 [41]).bind (fun _ _ => rfl) (fun _ r5 h => ?_)
    have h5 := (takeT_ok h4 (lift_ok h)).1
    exact ((locS f).1 0 r5 h5).bind (fun _ _ => rfl) (fun b r6 _ => LocR.pure _ r6)
end Go.Proofs.YtkkeocnnecegbaaGreatDoor

/- Plain law of parse: an error of a source hangs on the tokens up to its own alone; a part of a source hangs on its own tokens alone. By an AI agent. -/
namespace Go.Proofs.YtkkeocnnecegbaaGreatDoor

/-- As LocR, but what is read says nothing to what comes behind it. -/
inductive LocF {α : Type} (P : List Tok → Except PErr (α × List Tok)) (ts : List Tok) : Prop
  | out : P ts = .error outE → LocF P ts
  | err (pre : List Tok) (t : Tok) (post : List Tok) (e : Int) : ts = pre ++ t :: post → (e = 140 ∨ (e = 141 ∧ t.kind ≠ 5)) → (∀ post', P (pre ++ t :: post') = .error (t.at', e)) → LocF P ts
  | ok (x : α) (c r : List Tok) : c ≠ [] → ts = c ++ r → (∀ r', P (c ++ r') = .ok (x, r')) → LocF P ts
theorem head_ne {c : List Tok} (hc : c ≠ []) (a b : List Tok) : (c ++ a).head? = (c ++ b).head? := by cases c <;> simp_all
theorem LocR.bindF {α β : Type} {P1 : List Tok → Except PErr (α × List Tok)} {P2 : α → List Tok → Except PErr (β × List Tok)} {P : List Tok → Except PErr (β × List Tok)} {ts : List Tok}
    (h1 : LocR P1 ts) (hP : ∀ ts', ts'.head? = ts.head? → P ts' = bnd (P1 ts') P2) (h2 : ∀ x r, P1 ts = .ok (x, r) → LocF (P2 x) r) : LocF P ts := by
  rcases h1 with e1 | ⟨pre, t, post, e, e1, e2, e3⟩ | ⟨x, c, r, e1, e2⟩
  · exact .out (by rw [hP _ rfl, e1]; rfl)
  · exact .err pre t post e e1 e2 (fun post' => by rw [hP _ (by rw [e1]; exact head_mid _ _ _ _), e3]; rfl)
  · rcases h2 x r (by rw [e1]; exact e2 r rfl) with f1 | ⟨pre, t, post, e, f1, f2, f3⟩ | ⟨y, d, r2, f0, f1, f2⟩
    · exact .out (by rw [hP _ rfl, e1, e2 r rfl]; exact f1)
    · refine .err (c ++ pre) t post e (by rw [e1, f1, List.append_assoc]) f2 (fun post' => ?_)
      rw [List.append_assoc, hP _ (by rw [e1, f1]; exact head_app c (head_mid _ _ _ _)), e2 _ (by rw [f1]; exact head_mid _ _ _ _)]
      exact f3 post'
    · refine .ok y (c ++ d) r2 (by simp [f0]) (by rw [e1, f1, List.append_assoc]) (fun r' => ?_)
      rw [List.append_assoc, hP _ (by rw [e1, f1]; exact head_app c (head_ne f0 _ _)), e2 _ (by rw [f1]; exact head_ne f0 _ _)]
      exact f2 r'
theorem take_locF {β : Type} {ts : List Tok} (he : EndL ts) (x : List UInt8) (b : β) : LocF (fun ts => bnd (lift (takeT x ts)) (fun _ r => .ok (b, r))) ts := by
  cases ts with
  | nil => cases he
  | cons t r =>
    by_cases hi : isT x (t :: r) = true
    · refine .ok b [t] r (by simp) rfl (fun r' => ?_)
      have hi' : isT x ([t] ++ r') = true := by rw [← hi]; exact hd_is rfl x
      simp only [takeT, hi', if_true]; rfl
    · refine .err [] t r 140 rfl (Or.inl rfl) (fun post' => ?_)
      have hi' : isT x ([] ++ t :: post') = false := by
        have := hd_is (show ([] ++ t :: post').head? = (t :: r).head? from rfl) x
        rw [this]; simpa using hi
      simp only [takeT, hi']; rfl
theorem LocF.map {α β : Type} {P1 : List Tok → Except PErr (α × List Tok)} {g : α → β} {P : List Tok → Except PErr (β × List Tok)} {ts : List Tok}
    (h1 : LocF P1 ts) (hP : ∀ ts', P ts' = bnd (P1 ts') (fun x r => .ok (g x, r))) : LocF P ts := by
  rcases h1 with e1 | ⟨pre, t, post, e, e1, e2, e3⟩ | ⟨x, c, r, e0, e1, e2⟩
  · exact .out (by rw [hP, e1]; rfl)
  · exact .err pre t post e e1 e2 (fun post' => by rw [hP, e3]; rfl)
  · exact .ok (g x) c r e0 e1 (fun r' => by rw [hP, e2]; rfl)
theorem LocF.toR {α : Type} {P : List Tok → Except PErr (α × List Tok)} {ts : List Tok} (h : LocF P ts) : LocR P ts := by
  rcases h with e1 | ⟨pre, t, post, e, e1, e2, e3⟩ | ⟨x, c, r, e0, e1, e2⟩
  · exact .out e1
  · exact .err pre t post e e1 e2 e3
  · exact .ok x c r e1 (fun r' _ => e2 r')

theorem block_locF {f d : Nat} {ts : List Tok} (he : EndL ts) : LocF (blockS f d) ts := by
  cases f with
  | zero => exact .out (by unfold blockS; rfl)
  | succ f =>
    refine (open_loc he [123] d).bindF (P2 := fun _ r => bnd (stmtsS f (d + 1) [] r) (fun l r => bnd (lift (takeT [125] r)) (fun _ r => .ok (.mk 5 [] 0 (nowAt ts) l, r)))) (fun ts' h => ?_) (fun u r1 h => ?_)
    · conv => lhs; unfold blockS
      rw [hd_at h]
      cases openT [123] d ts' with
      | error e => rfl
      | ok r =>
        simp only [bnd, lift]
        cases stmtsS f (d + 1) [] r with
        | error e => rfl
        | ok v =>
          obtain ⟨l, r2⟩ := v
          simp only []
          cases takeT [125] r2 <;> rfl
    · have h1 := (openT_ok he (lift_ok h)).1
      refine ((locS f).2.1 (d + 1) [] r1 h1).bindF (fun _ _ => rfl) (fun l r2 h => ?_)
      have h2 := ((stmt_ok f).2.1 _ _ _ _ _ h1 h).1
      exact take_locF h2 [125] _
theorem func_locF {f : Nat} {ts : List Tok} (he : EndL ts) : LocF (funcS f) ts := by
  refine (take_loc he [102, 117, 110, 99]).bindF (P2 := fun _ r => bnd (nameT r) (fun t r => bnd (lift (takeT [40] r)) (fun _ r => bnd (parsS f true [] r) (fun l r => bnd (lift (takeT [41] r)) (fun _ r => bnd (blockS f 0 r) (fun b r => .ok (.mk 3 t 0 (nowAt ts) (l ++ [b]), r))))))) (fun ts' h => ?_) (fun u r1 h => ?_)
  · unfold funcS
    rw [hd_at h]
    cases takeT [102, 117, 110, 99] ts' with
    | error e => rfl
    | ok r =>
      simp only [bnd, lift]
      cases nameT r with
      | error e => rfl
      | ok v =>
        obtain ⟨t, r2⟩ := v
        simp only []
        cases takeT [40] r2 with
        | error e => rfl
        | ok r3 =>
          simp only []
          cases parsS f true [] r3 with
          | error e => rfl
          | ok v =>
            obtain ⟨l, r4⟩ := v
            simp only []
            cases takeT [41] r4 with
            | error e => rfl
            | ok r5 =>
              simp only []
              try (cases blockS f 0 r5 <;> rfl)
  · have h1 := (takeT_ok he (lift_ok h)).1
    refine (name_loc h1).bindF (fun _ _ => rfl) (fun t r2 h => ?_)
    have h2 := (nameT_ok h1 h).1
    refine (take_loc h2 [40]).bindF (fun _ _ => rfl) (fun _ r3 h => ?_)
    have h3 := (takeT_ok h2 (lift_ok h)).1
    refine (pars_loc f true [] r3 h3).bindF (fun _ _ => rfl) (fun l r4 h => ?_)
    have h4 := (pars_ok _ _ _ _ _ _ h3 h).1
    refine (take_loc h4 [41]).bindF (fun _ _ => rfl) (fun _ r5 h => ?_)
    have h5 := (takeT_ok h4 (lift_ok h)).1
    exact (block_locF h5).map (fun _ => rfl)
def numT (ts : List Tok) : Except PErr (Int × List Tok) := if nowKind ts = 3 then .ok (nowN ts, ts.tail) else .error (nowAt ts, 140)
theorem num_loc {ts : List Tok} (he : EndL ts) : LocR numT ts := by
  by_cases hi : nowKind ts = 3
  · cases ts with
    | nil => cases he
    | cons t r =>
      refine .ok t.n [t] r rfl (fun r' _ => ?_)
      have hk : nowKind ([t] ++ r') = 3 := hi
      unfold numT; rw [if_pos hk]; rfl
  · refine fail_loc he (fun ts' h => ?_)
    simp only [numT, hd_kind h, hi, if_false]
theorem numT_ok {ts r : List Tok} {n : Int} (he : EndL ts) (h : numT ts = .ok (n, r)) : EndL r := by
  unfold numT at h
  split at h
  · rename_i hi
    injection h with h; injection h with h1 h2; subst h1 h2
    exact (he.tail (by omega)).1
  · cases h
theorem array_locF {ts : List Tok} (he : EndL ts) : LocF arrayS ts := by
  refine (take_loc he [118, 97, 114]).bindF (P2 := fun _ r => bnd (nameT r) (fun t r => bnd (lift (takeT [91] r)) (fun _ r => bnd (numT r) (fun n r => bnd (lift (takeT [93] r)) (fun _ r => bnd (lift (takeT [59] r)) (fun _ r => .ok (.mk 2 t n (nowAt ts) [], r))))))) (fun ts' h => ?_) (fun u r1 h => ?_)
  · unfold arrayS
    rw [hd_at h]
    cases takeT [118, 97, 114] ts' with
    | error e => rfl
    | ok r =>
      simp only [bnd, lift]
      cases nameT r with
      | error e => rfl
      | ok v =>
        obtain ⟨t, r2⟩ := v
        simp only []
        cases takeT [91] r2 with
        | error e => rfl
        | ok r3 =>
          simp only [numT]
          by_cases hk : nowKind r3 = 3
          · rw [if_pos hk, if_pos hk]
            simp only []
            cases takeT [93] r3.tail with
            | error e => rfl
            | ok r4 =>
              simp only []
              cases takeT [59] r4 <;> rfl
          · rw [if_neg hk, if_neg hk]
  · have h1 := (takeT_ok he (lift_ok h)).1
    refine (name_loc h1).bindF (fun _ _ => rfl) (fun t r2 h => ?_)
    have h2 := (nameT_ok h1 h).1
    refine (take_loc h2 [91]).bindF (fun _ _ => rfl) (fun _ r3 h => ?_)
    have h3 := (takeT_ok h2 (lift_ok h)).1
    refine (num_loc h3).bindF (fun _ _ => rfl) (fun n r4 h => ?_)
    have h4 := numT_ok h3 h
    refine (take_loc h4 [93]).bindF (fun _ _ => rfl) (fun _ r5 h => ?_)
    have h5 := (takeT_ok h4 (lift_ok h)).1
    exact take_locF h5 [59] _

/-- One part of a program. -/
def partS (f : Nat) (ts : List Tok) : Except PErr (Item × List Tok) := if isT [118, 97, 114] ts = true then arrayS ts else funcS f ts
theorem part_locF {f : Nat} {ts : List Tok} (he : EndL ts) : LocF (partS f) ts := by
  have key : ∀ {P Q : List Tok → Except PErr (Item × List Tok)}, LocF Q ts → (∀ ts', ts'.head? = ts.head? → P ts' = Q ts') → LocF P ts := by
    intro P Q h hP
    rcases h with e1 | ⟨pre, t, post, e, e1, e2, e3⟩ | ⟨x, c, r, e0, e1, e2⟩
    · exact .out (by rw [hP _ rfl, e1])
    · exact .err pre t post e e1 e2 (fun post' => by rw [hP _ (by rw [e1]; exact head_mid _ _ _ _), e3])
    · exact .ok x c r e0 e1 (fun r' => by rw [hP _ (by rw [e1]; exact head_ne e0 _ _), e2])
  by_cases hi : isT [118, 97, 114] ts = true
  · exact key (array_locF he) (fun ts' h => by unfold partS; rw [hd_is h, if_pos hi])
  · exact key (func_locF (f := f) he) (fun ts' h => by unfold partS; rw [hd_is h, if_neg hi])
theorem part_ok {f : Nat} {ts r : List Tok} {x : Item} (he : EndL ts) (h : partS f ts = .ok (x, r)) : EndL r ∧ r.length < ts.length := by
  unfold partS at h
  split at h
  · exact array_ok he h
  · exact func_ok he h
theorem parts_step (f : Nat) (acc : List Item) (ts : List Tok) (hk : nowKind ts ≠ 5) : partsS (f + 1) acc ts = match partS f ts with
    | .error e => .error e
    | .ok (x, ts1) => partsS f (acc ++ [x]) ts1 := by
  conv => lhs; unfold partsS
  rw [if_neg hk]
  unfold partS
  cases (if isT [118, 97, 114] ts = true then arrayS ts else funcS f ts) <;> rfl

inductive LocP {α : Type} (P : List Tok → Except PErr α) (ts : List Tok) : Prop
  | out : P ts = .error outE → LocP P ts
  | err (pre : List Tok) (t : Tok) (post : List Tok) (e : Int) : ts = pre ++ t :: post → (e = 140 ∨ (e = 141 ∧ t.kind ≠ 5)) → (∀ post', P (pre ++ t :: post') = .error (t.at', e)) → LocP P ts
  | ok (x : α) : P ts = .ok x → LocP P ts
theorem parts_loc : ∀ (f : Nat) (acc : List Item) (ts : List Tok), EndL ts → LocP (partsS f acc) ts
  | 0, _, _, _ => .out (by unfold partsS; rfl)
  | f + 1, acc, ts, he => by
    by_cases hk : nowKind ts = 5
    · exact .ok acc (by unfold partsS; rw [if_pos hk])
    · rcases part_locF (f := f) he with e1 | ⟨pre, t, post, e, e1, e2, e3⟩ | ⟨x, c, r, e0, e1, e2⟩
      · exact .out (by rw [parts_step f acc ts hk, e1])
      · refine .err pre t post e e1 e2 (fun post' => ?_)
        rw [parts_step f acc _ (by rw [hd_kind (b := ts) (by rw [e1]; exact head_mid _ _ _ _)]; exact hk), e3]
      · have hr : EndL r := (part_ok he (by rw [e1]; exact e2 r)).1
        rcases parts_loc f (acc ++ [x]) r hr with f1 | ⟨pre, t, post, e, f1, f2, f3⟩ | ⟨y, f1⟩
        · exact .out (by rw [parts_step f acc ts hk, e1, e2]; exact f1)
        · refine .err (c ++ pre) t post e (by rw [e1, f1, List.append_assoc]) f2 (fun post' => ?_)
          rw [List.append_assoc, parts_step f acc _ (by rw [hd_kind (b := ts) (by rw [e1]; exact head_ne e0 _ _)]; exact hk), e2]
          exact f3 post'
        · exact .ok y (by rw [parts_step f acc ts hk, e1, e2]; exact f1)

/-- More fuel changes nothing. -/
theorem simI_refl_all : ∀ (N : Nat), (∀ x : Item, sizeI x ≤ N → SimI Eq x x) ∧ (∀ l : List Item, sizeL l ≤ N → SimL Eq l l)
  | 0 => ⟨fun x h => by have := sizeI_pos x; omega, fun l h => by
      cases l with
      | nil => exact .nil
      | cons x r => have := sizeI_pos x; simp only [sizeL] at h; omega⟩
  | N + 1 => by
    obtain ⟨h1, h2⟩ := simI_refl_all N
    have a : ∀ x : Item, sizeI x ≤ N + 1 → SimI Eq x x := by
      intro x h
      cases x with
      | mk k t n a ks => exact .mk _ _ _ _ _ _ _ rfl (h2 ks (by simp only [sizeI] at h; omega))
    refine ⟨a, fun l h => ?_⟩
    cases l with
    | nil => exact .nil
    | cons x r =>
      have := sizeI_pos x
      simp only [sizeL] at h
      exact .cons _ _ _ _ (a x (by omega)) (h2 r (by omega))
mutual
theorem simI_eq : ∀ {x y : Item}, SimI Eq x y → x = y
  | _, _, .mk _ _ _ _ _ _ _ h h2 => by rw [h, simL_eq h2]
theorem simL_eq : ∀ {x y : List Item}, SimL Eq x y → x = y
  | _, _, .nil => rfl
  | _, _, .cons _ _ _ _ h h2 => by rw [simI_eq h, simL_eq h2]
end
def diag (ts : List Tok) : Z := ts.map (fun t => (t, t))
theorem diag_l (ts : List Tok) : Z.l (diag ts) = ts := by simp [Z.l, diag, Function.comp_def]
theorem diag_r (ts : List Tok) : Z.r (diag ts) = ts := by simp [Z.r, diag, Function.comp_def]
theorem diag_zs (ts : List Tok) : ZS Eq (diag ts) := by
  intro p hp
  simp only [diag, List.mem_map] at hp
  obtain ⟨t, _, rfl⟩ := hp
  exact ⟨rfl, rfl⟩
theorem parts_more {f g : Nat} {acc : List Item} {ts : List Tok} (hg : f ≤ g) (he : EndL ts) (h : partsS f acc ts ≠ .error outE) : partsS g acc ts = partsS f acc ts := by
  have := parts_sim (S := Eq) f g acc acc (diag ts) hg (diag_zs ts) (by rw [diag_l]; exact he) ((simI_refl_all (sizeL acc)).2 acc (Nat.le_refl _))
  rw [diag_l, diag_r] at this
  rcases this with e1 | ⟨p, e, q, e1, e2, e3⟩ | ⟨x, y, e1, e2, e3⟩
  · exact absurd e1 h
  · rw [e1, e2, e3]
  · rw [e1, e2, simL_eq e3]
theorem part_more {f g : Nat} {ts : List Tok} (hg : f ≤ g) (he : EndL ts) (h : partS f ts ≠ .error outE) : partS g ts = partS f ts := by
  unfold partS at h ⊢
  split
  · rfl
  · rename_i hi
    rw [if_neg hi] at h
    have := func_sim (S := Eq) hg (diag_zs ts) (by rw [diag_l]; exact he)
    rw [diag_l, diag_r] at this
    rcases this with e1 | ⟨p, e, q, e1, e2, e3⟩ | ⟨x, y, z, e1, e2, e3, e4, _⟩
    · exact absurd e1 h
    · rw [e1, e2, e3]
    · rw [e1, e2, simI_eq e3]
      have hz : Z.l z = Z.r z := by
        unfold Z.l Z.r
        apply List.map_congr_left
        intro p hp
        obtain ⟨h1, h2⟩ := e4 p hp
        obtain ⟨a, b⟩ := p
        obtain ⟨k1, t1, n1, a1⟩ := a
        obtain ⟨k2, t2, n2, a2⟩ := b
        simp only [tk, Prod.mk.injEq] at h1
        simp only at h2
        simp only [h1.1, h1.2.1, h1.2.2, h2]
      rw [hz]
def partsE (ts : List Tok) : Except PErr (List Item) := partsS (16 * ts.length + 16) [] ts
def Rise (ts : List Tok) : Prop := ts.Pairwise (fun a b => a.at' < b.at')
theorem rise_split {a b c d : List Tok} {t u : Tok} (h : Rise (a ++ t :: b)) (e : a ++ t :: b = c ++ u :: d) (ht : t.at' = u.at') : a = c ∧ t = u := by
  induction a generalizing c with
  | nil =>
    cases c with
    | nil => injection e with e _; exact ⟨rfl, e⟩
    | cons x c =>
      rw [List.nil_append, List.cons_append] at e
      injection e with e1 e2
      rw [List.nil_append] at h
      have := (List.pairwise_cons.1 h).1 u (by rw [e2]; simp)
      omega
  | cons x a ih =>
    cases c with
    | nil =>
      rw [List.nil_append, List.cons_append] at e
      injection e with e1 e2
      have := (List.pairwise_cons.1 h).1 t (by simp)
      rw [e1] at this
      omega
    | cons y c =>
      rw [List.cons_append, List.cons_append] at e
      injection e with e1 e2
      obtain ⟨i1, i2⟩ := ih (List.pairwise_cons.1 h).2 e2
      exact ⟨by rw [e1, i1], i2⟩
theorem progS_error {ts : List Tok} {q : PErr} : progS ts = .error q ↔ partsS (16 * ts.length + 16) [] ts = .error q := by
  unfold progS
  cases hq : partsS (16 * ts.length + 16) [] ts with
  | error q' => simp
  | ok l => simp
/-- AN ERROR'S TOKEN: what stands behind it says nothing to it. -/
theorem prog_err {ts : List Tok} {p : Nat} {e : Int} (he : EndL ts) (hs : Rise ts) (h : progS ts = .error (p, e)) :
    ∃ pre t post, ts = pre ++ t :: post ∧ t.at' = p ∧ (e = 140 ∨ (e = 141 ∧ t.kind ≠ 5)) ∧ (∀ post', EndL (pre ++ t :: post') → progS (pre ++ t :: post') = .error (p, e)) := by
  have hF := prog_fuel he
  have hp := progS_error.1 h
  have hne : (p, e) ≠ outE := by intro hc; rw [hc] at h; exact hF h
  have up : ∀ g, 16 * ts.length + 16 ≤ g → partsS g [] ts = .error (p, e) := fun g hg => by
    rw [parts_more hg he (by rw [hp]; intro hc; injection hc with hc; exact hne hc), hp]
  have loc : ∀ g, 16 * ts.length + 16 ≤ g → ∃ pre t post, ts = pre ++ t :: post ∧ t.at' = p ∧ (e = 140 ∨ (e = 141 ∧ t.kind ≠ 5)) ∧ (∀ post', partsS g [] (pre ++ t :: post') = .error (p, e)) := by
    intro g hg
    rcases parts_loc g [] ts he with e1 | ⟨pre, t, post, e', e1, e2, e3⟩ | ⟨x, e1⟩
    · rw [up g hg] at e1; injection e1 with e1; exact absurd e1 hne
    · have := e3 post
      rw [← e1, up g hg] at this
      injection this with this
      injection this with a b
      subst a b
      exact ⟨pre, t, post, e1, rfl, e2, e3⟩
    · rw [up g hg] at e1; cases e1
  obtain ⟨pre, t, post, e1, e2, e3, _⟩ := loc _ (Nat.le_refl _)
  refine ⟨pre, t, post, e1, e2, e3, fun post' he' => ?_⟩
  obtain ⟨pre2, t2, post2, f1, f2, _, f4⟩ := loc (16 * ts.length + 16 + (16 * (pre ++ t :: post').length + 16)) (by omega)
  obtain ⟨rfl, rfl⟩ := rise_split (by rw [← e1]; exact hs) (e1.symm.trans f1) (by rw [e2, f2])
  have := f4 post'
  rw [progS_error, ← this]
  refine (parts_more (by omega) he' ?_).symm
  intro hc
  exact prog_fuel he' (progS_error.2 hc)
/-- AHEAD OF AN ERROR'S TOKEN there is no error, but at the end. -/
theorem prog_cut {pre post : List Tok} {t c : Tok} {e : Int} (he : EndL (pre ++ t :: post)) (hs : Rise (pre ++ t :: post)) (h : progS (pre ++ t :: post) = .error (t.at', e)) (hc : c.kind = 5) (hr : Rise (pre ++ [c])) :
    (∃ x, progS (pre ++ [c]) = .ok x) ∨ progS (pre ++ [c]) = .error (c.at', 140) := by
  have hk : ∀ (a b : List Tok) (u : Tok), EndL (a ++ u :: b) → EndL (a ++ [c]) := by
    intro a
    induction a with
    | nil => intro b u _; exact .one c hc
    | cons x a ih =>
      intro b u h
      rw [List.cons_append] at h ⊢
      cases hh : a ++ u :: b with
      | nil => simp at hh
      | cons y z =>
        rw [hh] at h
        cases h with
        | more _ _ h1 h2 => exact .more _ _ h1 (ih b u (by rw [hh]; exact h2))
  have hec := hk pre post t he
  cases hp : progS (pre ++ [c]) with
  | ok x => exact .inl ⟨x, rfl⟩
  | error q =>
    refine .inr ?_
    obtain ⟨p', e'⟩ := q
    obtain ⟨pre', t', post', f1, f2, f3, f4⟩ := prog_err hec hr hp
    rcases List.eq_nil_or_concat post' with rfl | ⟨post'', z, rfl⟩
    · have := List.append_inj' f1 rfl
      obtain ⟨rfl, h2⟩ := this
      injection h2 with h2 _
      subst h2
      rcases f3 with rfl | ⟨_, hk⟩
      · rw [f2]
      · exact absurd hc hk
    · exfalso
      have f1' : pre ++ [c] = (pre' ++ t' :: post'') ++ [z] := by rw [f1]; simp
      have := List.append_inj' f1' rfl
      obtain ⟨rfl, _⟩ := this
      have f5 := f4 (post'' ++ t :: post) (by simpa using he)
      have e5 : pre' ++ t' :: (post'' ++ t :: post) = (pre' ++ t' :: post'') ++ t :: post := by simp
      rw [e5, h] at f5
      injection f5 with f5
      injection f5 with f6 _
      have hs' : Rise (pre' ++ t' :: (post'' ++ t :: post)) := by rw [e5]; exact hs
      have := (List.pairwise_cons.1 (List.pairwise_append.1 hs').2.1).1 t (by simp)
      omega
end Go.Proofs.YtkkeocnnecegbaaGreatDoor

/- Plain law of parse: a row of nodes that stand in order is a tree. By an AI agent. -/
namespace Go.Proofs.YtkkeocnnecegbaaGreatDoor

/-- A node of whatever make. -/
structure GN where
  kind : Nat
  text : List UInt8
  n : Int
  at' : Int
  kids : List Int
def gn (m : NodeS) : GN := ⟨m.kind, m.text, m.n, m.at', m.kids.map (fun k : Nat => (k : Int))⟩
/-- The same, but for places. -/
def sameN (a b : GN) : Prop := a.kind = b.kind ∧ a.text = b.text ∧ a.n = b.n ∧ a.kids = b.kids
instance (a b : GN) : Decidable (sameN a b) := by unfold sameN; exact inferInstance
def sameG (a b : List GN) : Prop := a.length = b.length ∧ ∀ (i : Nat) x y, a[i]? = some x → b[i]? = some y → sameN x y
theorem sameN_refl (a : GN) : sameN a a := ⟨rfl, rfl, rfl, rfl⟩
theorem sameG_refl (a : List GN) : sameG a a := ⟨rfl, fun i x y h1 h2 => by rw [h1] at h2; injection h2 with h2; subst h2; exact sameN_refl x⟩
theorem sameG_symm {a b : List GN} (h : sameG a b) : sameG b a := ⟨h.1.symm, fun i x y h1 h2 => by obtain ⟨p, q, r, s⟩ := h.2 i y x h2 h1; exact ⟨p.symm, q.symm, r.symm, s.symm⟩⟩
theorem sameG_trans {a b c : List GN} (h : sameG a b) (k : sameG b c) : sameG a c := ⟨h.1.trans k.1, fun i x z h1 h2 => by
  have hi : i < b.length := by rw [← h.1]; exact (List.getElem?_eq_some_iff.1 h1).1
  have hb : b[i]? = some b[i] := List.getElem?_eq_getElem hi
  obtain ⟨p, q, r, s⟩ := h.2 i x _ h1 hb
  obtain ⟨p', q', r', s'⟩ := k.2 i _ z hb h2
  exact ⟨p.trans p', q.trans q', r.trans r', s.trans s'⟩⟩

/-- Where what stands beneath the node at i ends, each right behind it; none: it does not. -/
def behindG (T : List GN) : Nat → Nat → Option Nat
  | 0, _ => none
  | f + 1, i => match T[i]? with
    | none => none
    | some g => g.kids.foldlM (fun (next : Nat) (k : Int) => if k = (next : Int) ∧ next < T.length then behindG T f next else none) (i + 1)

mutual
/-- At i stands that tree (but for places). -/
def AtI (T : List GN) : Nat → Item → Prop
  | i, .mk k t n _ ks => (∃ a, T[i]? = some ⟨k, t, n, a, (offs (i + 1) ks).map (fun k : Nat => (k : Int))⟩) ∧ AtL T (i + 1) ks
def AtL (T : List GN) : Nat → List Item → Prop
  | _, [] => True
  | i, x :: r => AtI T i x ∧ AtL T (i + sizeI x) r
end
theorem AtI.lt {T : List GN} {i : Nat} {x : Item} (h : AtI T i x) : i < T.length := by
  obtain ⟨k, t, n, a, ks⟩ := x
  obtain ⟨⟨_, h⟩, _⟩ := h
  exact (List.getElem?_eq_some_iff.1 h).1
theorem AtL_snoc {T : List GN} {x : Item} : ∀ {l : List Item} {i : Nat}, AtL T i l → AtI T (i + sizeL l) x → AtL T i (l ++ [x])
  | [], i, _, h => by simp only [sizeL, Nat.add_zero] at h; exact ⟨h, trivial⟩
  | y :: r, i, h, h2 => ⟨h.1, AtL_snoc h.2 (by simp only [sizeL] at h2; rw [Nat.add_assoc]; exact h2)⟩

/-- IN ORDER: a tree. -/
theorem behind_item {T : List GN} : ∀ (f i e : Nat), behindG T f i = some e → ∃ x, AtI T i x ∧ e = i + sizeI x
  | 0, i, e, h => by unfold behindG at h; cases h
  | f + 1, i, e, h => by
    unfold behindG at h
    cases hg : T[i]? with
    | none => rw [hg] at h; cases h
    | some g =>
      rw [hg] at h
      simp only at h
      have key : ∀ (ks : List Int) (next e : Nat), ks.foldlM (fun (next : Nat) (k : Int) => if k = (next : Int) ∧ next < T.length then behindG T f next else none) next = some e → ∃ l, AtL T next l ∧ ks = (offs next l).map (fun k : Nat => (k : Int)) ∧ e = next + sizeL l := by
        intro ks
        induction ks with
        | nil => intro next e h; simp at h; exact ⟨[], trivial, rfl, by simp [sizeL, h]⟩
        | cons k r ih =>
          intro next e h
          rw [List.foldlM_cons] at h
          by_cases hk : k = (next : Int) ∧ next < T.length
          · rw [if_pos hk] at h
            cases hb : behindG T f next with
            | none => rw [hb] at h; cases h
            | some nx =>
              rw [hb] at h
              obtain ⟨x, hx1, hx2⟩ := behind_item f next nx hb
              obtain ⟨l, hl1, hl2, hl3⟩ := ih nx e h
              subst hx2
              refine ⟨x :: l, ⟨hx1, hl1⟩, ?_, ?_⟩
              · simp only [offs, List.map_cons]; rw [← hl2, hk.1]
              · simp only [sizeL]; omega
          · rw [if_neg hk] at h; cases h
      obtain ⟨l, h1, h2, h3⟩ := key g.kids (i + 1) e h
      refine ⟨.mk g.kind g.text g.n 0 l, ⟨⟨g.at', by rw [hg, ← h2]⟩, h1⟩, ?_⟩
      simp only [sizeI]; omega
/-- A TREE: in order. -/
theorem item_behind {T : List GN} : ∀ (f i : Nat) (x : Item), AtI T i x → sizeI x ≤ f → behindG T f i = some (i + sizeI x)
  | 0, i, x, h, hf => by have := sizeI_pos x; omega
  | f + 1, i, .mk k t n a ks, h, hf => by
    obtain ⟨⟨a', h1⟩, h2⟩ := h
    unfold behindG
    rw [h1]
    simp only
    have key : ∀ (l : List Item) (next : Nat), AtL T next l → sizeL l ≤ f → ((offs next l).map (fun k : Nat => (k : Int))).foldlM (fun (next : Nat) (k : Int) => if k = (next : Int) ∧ next < T.length then behindG T f next else none) next = some (next + sizeL l) := by
      intro l
      induction l with
      | nil => intro next _ _; simp [offs, sizeL]
      | cons x r ih =>
        intro next h hs
        simp only [sizeL] at hs
        simp only [offs, List.map_cons, List.foldlM_cons]
        rw [if_pos ⟨trivial, h.1.lt⟩, item_behind f next x h.1 (by omega)]
        show List.foldlM _ (next + sizeI x) _ = _
        rw [ih (next + sizeI x) h.2 (by omega)]
        simp only [sizeL, Nat.add_assoc]
    simp only [sizeI] at hf ⊢
    rw [key ks (i + 1) h2 (by omega)]
    congr 1; omega

mutual
theorem flat_at (T p q : List GN) : ∀ (x : Item), T = p ++ (flat p.length x).map gn ++ q → AtI T p.length x
  | .mk k t n a ks, h => by
    simp only [flat, List.map_cons] at h
    refine ⟨⟨a, ?_⟩, ?_⟩
    · rw [h]
      rw [List.append_assoc, List.getElem?_append_right (Nat.le_refl _), Nat.sub_self]
      rfl
    · have := flatL_at T (p ++ [gn ⟨k, t, n, a, offs (p.length + 1) ks⟩]) q ks (by rw [h]; simp)
      simpa using this
theorem flatL_at (T p q : List GN) : ∀ (l : List Item), T = p ++ (flatL p.length l).map gn ++ q → AtL T p.length l
  | [], _ => trivial
  | x :: r, h => by
    simp only [flatL, List.map_append] at h
    refine ⟨flat_at T p ((flatL (p.length + sizeI x) r).map gn ++ q) x (by rw [h]; simp), ?_⟩
    have := flatL_at T (p ++ (flat p.length x).map gn) q r (by rw [h]; simp [flat_length])
    simpa [flat_length] using this
end
theorem flat_at0 (x : Item) : AtI ((flat 0 x).map gn) 0 x := flat_at _ [] [] x (by simp)

mutual
/-- Trees that stand at the same place are the same but for places. -/
theorem at_same {T U : List GN} : ∀ {x y : Item} {i : Nat}, AtI T i x → AtI U i y → erase x = erase y → ∀ j, i ≤ j → j < i + sizeI x → ∃ a b, T[j]? = some a ∧ U[j]? = some b ∧ sameN a b
  | .mk k t n a ks, .mk k' t' n' a' ks', i, h, h', e, j, h1, h2 => by
    simp only [erase, Item.mk.injEq] at e
    obtain ⟨rfl, rfl, rfl, _, e⟩ := e
    obtain ⟨⟨p, hp⟩, hl⟩ := h
    obtain ⟨⟨p', hp'⟩, hl'⟩ := h'
    have ho := offs_erase e (i + 1)
    by_cases hj : j = i
    · subst hj
      exact ⟨_, _, hp, hp', rfl, rfl, rfl, by rw [ho]⟩
    · exact atL_same hl hl' e j (by omega) (by simp only [sizeI] at h2; omega)
theorem atL_same {T U : List GN} : ∀ {l m : List Item} {i : Nat}, AtL T i l → AtL U i m → eraseL l = eraseL m → ∀ j, i ≤ j → j < i + sizeL l → ∃ a b, T[j]? = some a ∧ U[j]? = some b ∧ sameN a b
  | [], _, i, _, _, _, j, h1, h2 => by simp only [sizeL] at h2; omega
  | x :: r, [], i, _, _, e, j, h1, h2 => by simp [eraseL] at e
  | x :: r, y :: s, i, h, h', e, j, h1, h2 => by
    simp only [eraseL, List.cons.injEq] at e
    have hs := size_erase e.1
    by_cases hj : j < i + sizeI x
    · exact at_same h.1 h'.1 e.1 j h1 hj
    · have k := h'.2
      rw [← hs] at k
      exact atL_same h.2 k e.2 j (by omega) (by simp only [sizeL] at h2; omega)
theorem offs_erase : ∀ {l m : List Item}, eraseL l = eraseL m → ∀ o, offs o l = offs o m
  | [], [], _, o => rfl
  | [], y :: s, e, o => by simp [eraseL] at e
  | x :: r, [], e, o => by simp [eraseL] at e
  | x :: r, y :: s, e, o => by
    simp only [eraseL, List.cons.injEq] at e
    simp only [offs]
    rw [size_erase e.1, offs_erase e.2]
theorem size_erase : ∀ {x y : Item}, erase x = erase y → sizeI x = sizeI y
  | .mk k t n a ks, .mk k' t' n' a' ks', e => by
    simp only [erase, Item.mk.injEq] at e
    simp only [sizeI]; rw [sizeL_erase e.2.2.2.2]
theorem sizeL_erase : ∀ {l m : List Item}, eraseL l = eraseL m → sizeL l = sizeL m
  | [], [], _ => rfl
  | [], y :: s, e => by simp [eraseL] at e
  | x :: r, [], e => by simp [eraseL] at e
  | x :: r, y :: s, e => by
    simp only [eraseL, List.cons.injEq] at e
    simp only [sizeL]
    rw [size_erase e.1, sizeL_erase e.2]
end
mutual
/-- Trees that stand at a place in rows that are the same are the same but for places. -/
theorem same_at {T U : List GN} (h : sameG T U) : ∀ {x y : Item} {i : Nat}, AtI T i x → AtI U i y → erase x = erase y
  | .mk k t n a ks, .mk k' t' n' a' ks', i, h1, h2 => by
    obtain ⟨⟨p, hp⟩, hl⟩ := h1
    obtain ⟨⟨p', hp'⟩, hl'⟩ := h2
    obtain ⟨e1, e2, e3, e4⟩ := h.2 i _ _ hp hp'
    simp only at e1 e2 e3 e4
    subst e1 e2 e3
    simp only [erase, Item.mk.injEq, true_and]
    exact sameL_at h (by
      have := congrArg (List.map Int.toNat) e4
      simpa [Function.comp_def] using this) hl hl'
theorem sameL_at {T U : List GN} (h : sameG T U) : ∀ {l m : List Item} {i : Nat}, offs i l = offs i m → AtL T i l → AtL U i m → eraseL l = eraseL m
  | [], [], _, _, _, _ => rfl
  | [], y :: s, _, e, _, _ => by simp [offs] at e
  | x :: r, [], _, e, _, _ => by simp [offs] at e
  | x :: r, y :: s, i, e, h1, h2 => by
    have e1 := same_at h h1.1 h2.1
    simp only [eraseL, e1, List.cons.injEq, true_and]
    have hs := size_erase e1
    simp only [offs, List.cons.injEq, true_and] at e
    have k := h2.2
    rw [← hs] at k e
    exact sameL_at h e h1.2 k
end
theorem at_sameG {T U : List GN} {x y : Item} (h : AtI T 0 x) (h' : AtI U 0 y) (e : erase x = erase y) (hT : T.length = sizeI x) (hU : U.length = sizeI y) : sameG T U := by
  refine ⟨by rw [hT, hU, size_erase e], fun i a b h1 h2 => ?_⟩
  obtain ⟨a', b', e1, e2, e3⟩ := at_same h h' e i (Nat.zero_le _) (by have := (List.getElem?_eq_some_iff.1 h1).1; omega)
  rw [h1] at e1; rw [h2] at e2
  injection e1 with e1; injection e2 with e2
  subst e1 e2; exact e3
theorem same_erase {x y : Item} : sameG ((flat 0 x).map gn) ((flat 0 y).map gn) ↔ erase x = erase y :=
  ⟨fun h => same_at h (flat_at0 x) (flat_at0 y), fun e => at_sameG (flat_at0 x) (flat_at0 y) e (by simp [flat_length]) (by simp [flat_length])⟩
end Go.Proofs.YtkkeocnnecegbaaGreatDoor

/- Plain law of parse: nodes that are shaped are a shaped program, and the other way round. By an AI agent. -/
namespace Go.Proofs.YtkkeocnnecegbaaGreatDoor

def isDk (k : Nat) : Bool := k == 2 || k == 3
def isSk (k : Nat) : Bool := decide (6 ≤ k) && decide (k ≤ 15)
def isEk (k : Nat) : Bool := decide (17 ≤ k) && decide (k ≤ 21)
/-- May a kind have kids of these kinds? -/
def fitsK (k : Nat) (l : List Nat) : Bool :=
  if k = 1 then l.all isDk
  else if k = 3 then (l.getLast? == some 5) && l.dropLast.all (· == 4)
  else if k = 5 then l.all isSk
  else if k = 6 ∨ k = 7 ∨ k = 11 ∨ k = 12 ∨ k = 13 ∨ k = 19 ∨ k = 20 then (match l with | [a] => isEk a | _ => false)
  else if k = 8 ∨ k = 21 then (match l with | [a, b] => isEk a && isEk b | _ => false)
  else if k = 9 then (match l with | [a, b] => isEk a && b == 5 | [a, b, c] => isEk a && b == 5 && c == 5 | _ => false)
  else if k = 10 then (match l with | [a, b] => isEk a && b == 5 | _ => false)
  else if k = 15 then (match l with | c :: r => c == 16 && r.all isEk | [] => false)
  else l.isEmpty
def mostK (k : Nat) : Int := if k = 2 ∨ k = 17 then 2147483647 else if k = 20 then 2 else if k = 21 then 14 else 0
/-- May a node be so? -/
def okN (k : Nat) (t : List UInt8) (n : Int) (l : List Nat) : Bool :=
  (nameOk t == named k) && (named k || t.isEmpty) && decide (0 ≤ n) && decide (n ≤ mostK k) && (decide (k < 20) || decide (0 < n)) && decide (1 ≤ k) && decide (k ≤ 21) && fitsK k l
mutual
def ShapedI : Item → Prop
  | .mk k t n _ ks => okN k t n (ks.map kindI) = true ∧ ShapedL ks
def ShapedL : List Item → Prop
  | [] => True
  | x :: r => ShapedI x ∧ ShapedL r
end
theorem shapedL_mem {l : List Item} (h : ShapedL l) : ∀ x ∈ l, ShapedI x := by
  induction l with
  | nil => intro x hx; cases hx
  | cons y r ih =>
    intro x hx
    rcases List.mem_cons.1 hx with rfl | hx
    · exact h.1
    · exact ih h.2 x hx
theorem shapedL_of {l : List Item} (h : ∀ x ∈ l, ShapedI x) : ShapedL l := by
  induction l with
  | nil => trivial
  | cons y r ih => exact ⟨h y (by simp), ih (fun x hx => h x (by simp [hx]))⟩
theorem goodL_mem {l : List Item} (h : GoodL l) : ∀ x ∈ l, GoodI x := by
  induction l with
  | nil => intro x hx; cases hx
  | cons y r ih =>
    intro x hx
    rcases List.mem_cons.1 hx with rfl | hx
    · exact h.1
    · exact ih h.2 x hx
theorem goodL_of {l : List Item} (h : ∀ x ∈ l, GoodI x) : GoodL l := by
  induction l with
  | nil => trivial
  | cons y r ih => exact ⟨h y (by simp), ih (fun x hx => h x (by simp [hx]))⟩
structure OkN (k : Nat) (t : List UInt8) (n : Int) (l : List Nat) : Prop where
  name : nameOk t = named k
  text : named k = true ∨ t = []
  lo : 0 ≤ n
  hi : n ≤ mostK k
  pos : k < 20 ∨ 0 < n
  k1 : 1 ≤ k
  k2 : k ≤ 21
  fit : fitsK k l = true
theorem okN_iff {k : Nat} {t : List UInt8} {n : Int} {l : List Nat} : okN k t n l = true ↔ OkN k t n l := by
  unfold okN
  simp only [Bool.and_eq_true, Bool.or_eq_true, decide_eq_true_eq, beq_iff_eq, List.isEmpty_iff]
  constructor
  · rintro ⟨⟨⟨⟨⟨⟨⟨a, b⟩, c⟩, d⟩, e⟩, f⟩, g⟩, h⟩; exact ⟨a, b, c, d, e, f, g, h⟩
  · rintro ⟨a, b, c, d, e, f, g, h⟩; exact ⟨⟨⟨⟨⟨⟨⟨a, b⟩, c⟩, d⟩, e⟩, f⟩, g⟩, h⟩
theorem mostK_le (k : Nat) : mostK k ≤ 2147483647 := by unfold mostK; split <;> (try split) <;> (try split) <;> omega
mutual
theorem shaped_good : ∀ {x : Item}, ShapedI x → GoodI x
  | .mk k t n a ks, h => by
    have o := okN_iff.1 h.1
    exact ⟨fun hn => by rw [o.name]; exact hn, ⟨o.lo, by have := o.hi; have := mostK_le k; omega⟩, shapedL_good h.2⟩
theorem shapedL_good : ∀ {l : List Item}, ShapedL l → GoodL l
  | [], _ => trivial
  | _x :: _r, h => ⟨shaped_good h.1, shapedL_good h.2⟩
end
theorem isEk_iff {k : Nat} : isEk k = true ↔ 17 ≤ k ∧ k ≤ 21 := by simp [isEk]
theorem isSk_iff {k : Nat} : isSk k = true ↔ 6 ≤ k ∧ k ≤ 15 := by simp [isSk]
theorem isDk_iff {k : Nat} : isDk k = true ↔ k = 2 ∨ k = 3 := by simp [isDk]
theorem map1 {l : List Item} {a : Nat} (h : l.map kindI = [a]) : ∃ x, l = [x] ∧ kindI x = a := by
  match l, h with
  | [x], h => simp at h; exact ⟨x, rfl, h⟩
theorem map2 {l : List Item} {a b : Nat} (h : l.map kindI = [a, b]) : ∃ x y, l = [x, y] ∧ kindI x = a ∧ kindI y = b := by
  match l, h with
  | [x, y], h => simp at h; exact ⟨x, y, rfl, h.1, h.2⟩
theorem map3 {l : List Item} {a b c : Nat} (h : l.map kindI = [a, b, c]) : ∃ x y z, l = [x, y, z] ∧ kindI x = a ∧ kindI y = b ∧ kindI z = c := by
  match l, h with
  | [x, y, z], h => simp at h; exact ⟨x, y, z, rfl, h.1, h.2.1, h.2.2⟩
theorem fit1 {l : List Nat} (h : (match l with | [a] => isEk a | _ => false) = true) : ∃ a, l = [a] ∧ isEk a = true := by
  match l, h with
  | [a], h => exact ⟨a, rfl, h⟩
theorem fit2 {l : List Nat} (h : (match l with | [a, b] => isEk a && isEk b | _ => false) = true) : ∃ a b, l = [a, b] ∧ isEk a = true ∧ isEk b = true := by
  match l, h with
  | [a, b], h => simp only [Bool.and_eq_true] at h; exact ⟨a, b, rfl, h.1, h.2⟩

theorem shaped_wx : ∀ (N : Nat) (x : Item), sizeI x ≤ N → ShapedI x → isEk (kindI x) = true → WX x
  | 0, x, hs, _, _ => by have := sizeI_pos x; omega
  | N + 1, .mk k t n a ks, hs, h, hk => by
    have o := okN_iff.1 h.1
    have hkk : 17 ≤ k ∧ k ≤ 21 := isEk_iff.1 hk
    have ih := shaped_wx N
    have hF := o.fit
    have hL := shapedL_mem h.2
    simp only [sizeI] at hs
    have hkid : ∀ x ∈ ks, sizeI x ≤ N := fun x hx => by have := sizeL_mem hx; omega
    have h5 : k = 17 ∨ k = 18 ∨ k = 19 ∨ k = 20 ∨ k = 21 := by omega
    rcases h5 with rfl | rfl | rfl | rfl | rfl
    · have hT := o.text
      simp [fitsK] at hF
      simp [named] at hT
      exact ⟨hT, hF⟩
    · simp [fitsK] at hF
      have h2 := o.hi; have h3 := o.lo
      simp [mostK] at h2
      exact ⟨by omega, hF⟩
    · have h1 : (match ks.map kindI with | [a] => isEk a | _ => false) = true := hF
      obtain ⟨b, e1, e2⟩ := fit1 h1
      obtain ⟨x, rfl, e3⟩ := map1 e1
      have h2 := o.hi; have h3 := o.lo
      simp [mostK] at h2
      exact ⟨by omega, ih x (hkid x (by simp)) (hL x (by simp)) (by rw [e3]; exact e2)⟩
    · have h1 : (match ks.map kindI with | [a] => isEk a | _ => false) = true := hF
      obtain ⟨b, e1, e2⟩ := fit1 h1
      obtain ⟨x, rfl, e3⟩ := map1 e1
      have hT := o.text
      simp [named] at hT
      have h2 := o.hi; have h3 := o.pos
      simp [mostK] at h2
      exact ⟨hT, by omega, ih x (hkid x (by simp)) (hL x (by simp)) (by rw [e3]; exact e2)⟩
    · have h1 : (match ks.map kindI with | [a, b] => isEk a && isEk b | _ => false) = true := hF
      obtain ⟨b, c, e1, e2, e4⟩ := fit2 h1
      obtain ⟨x, y, rfl, e3, e5⟩ := map2 e1
      have hT := o.text
      simp [named] at hT
      have h2 := o.hi; have h3 := o.pos
      simp [mostK] at h2
      exact ⟨hT, by omega, ih x (hkid x (by simp)) (hL x (by simp)) (by rw [e3]; exact e2), ih y (hkid y (by simp)) (hL y (by simp)) (by rw [e5]; exact e4)⟩
theorem sh_wx {x : Item} (h : ShapedI x) (hk : isEk (kindI x) = true) : WX x := shaped_wx _ x (Nat.le_refl _) h hk
theorem shL_wxs : ∀ {l : List Item}, ShapedL l → (l.map kindI).all isEk = true → WXs l
  | [], _, _ => trivial
  | x :: r, h, hk => by
    simp only [List.map_cons, List.all_cons, Bool.and_eq_true] at hk
    exact ⟨sh_wx h.1 hk.1, shL_wxs h.2 hk.2⟩
theorem shaped_ws : ∀ (N : Nat) (x : Item), sizeI x ≤ N → ShapedI x → (isSk (kindI x) = true → WS true x) ∧ (kindI x = 5 → WS false x)
  | 0, x, hs, _ => by have := sizeI_pos x; omega
  | N + 1, .mk k t n a ks, hs, h => by
    have o := okN_iff.1 h.1
    have ih := shaped_ws N
    have hF := o.fit
    have hL := shapedL_mem h.2
    simp only [sizeI] at hs
    have hkid : ∀ x ∈ ks, sizeI x ≤ N := fun x hx => by have := sizeL_mem hx; omega
    have hT := o.text
    have h2 := o.hi
    have h3 := o.lo
    refine ⟨fun hk => ?_, fun hk => ?_⟩
    · have hkk : 6 ≤ k ∧ k ≤ 15 := isSk_iff.1 hk
      have h10 : k = 6 ∨ k = 7 ∨ k = 8 ∨ k = 9 ∨ k = 10 ∨ k = 11 ∨ k = 12 ∨ k = 13 ∨ k = 14 ∨ k = 15 := by omega
      rcases h10 with rfl | rfl | rfl | rfl | rfl | rfl | rfl | rfl | rfl | rfl
      · simp [mostK] at h2
        obtain rfl : n = 0 := by omega
        have h1 : (match ks.map kindI with | [a] => isEk a | _ => false) = true := hF
        obtain ⟨b, e1, e2⟩ := fit1 h1
        obtain ⟨x, rfl, e3⟩ := map1 e1
        exact .declare t a x (sh_wx (hL x (by simp)) (by rw [e3]; exact e2))
      · simp [mostK] at h2
        obtain rfl : n = 0 := by omega
        have h1 : (match ks.map kindI with | [a] => isEk a | _ => false) = true := hF
        obtain ⟨b, e1, e2⟩ := fit1 h1
        obtain ⟨x, rfl, e3⟩ := map1 e1
        exact .assign t a x (sh_wx (hL x (by simp)) (by rw [e3]; exact e2))
      · simp [mostK] at h2
        obtain rfl : n = 0 := by omega
        have h1 : (match ks.map kindI with | [a, b] => isEk a && isEk b | _ => false) = true := hF
        obtain ⟨b, c, e1, e2, e4⟩ := fit2 h1
        obtain ⟨x, y, rfl, e3, e5⟩ := map2 e1
        exact .store t a x y (sh_wx (hL x (by simp)) (by rw [e3]; exact e2)) (sh_wx (hL y (by simp)) (by rw [e5]; exact e4))
      · simp [mostK] at h2
        obtain rfl : n = 0 := by omega
        simp [named] at hT
        subst hT
        have h1 : (match ks.map kindI with | [a, b] => isEk a && b == 5 | [a, b, c] => isEk a && b == 5 && c == 5 | _ => false) = true := hF
        match hm : ks.map kindI, h1 with
        | [b, c], h1 =>
          obtain ⟨x, y, rfl, e3, e5⟩ := map2 hm
          have h1 : (isEk (kindI x) && kindI y == 5) = true := h1
          simp only [Bool.and_eq_true, beq_iff_eq] at h1
          exact .if1 a x y (sh_wx (hL x (by simp)) h1.1) ((ih y (hkid y (by simp)) (hL y (by simp))).2 h1.2)
        | [b, c, d], h1 =>
          obtain ⟨x, y, z, rfl, e3, e5, e6⟩ := map3 hm
          have h1 : (isEk (kindI x) && kindI y == 5 && kindI z == 5) = true := h1
          simp only [Bool.and_eq_true, beq_iff_eq] at h1
          exact .if2 a x y z (sh_wx (hL x (by simp)) h1.1.1) ((ih y (hkid y (by simp)) (hL y (by simp))).2 h1.1.2) ((ih z (hkid z (by simp)) (hL z (by simp))).2 h1.2)
      · simp [mostK] at h2
        obtain rfl : n = 0 := by omega
        simp [named] at hT
        subst hT
        have h1 : (match ks.map kindI with | [a, b] => isEk a && b == 5 | _ => false) = true := hF
        match hm : ks.map kindI, h1 with
        | [b, c], h1 =>
          obtain ⟨x, y, rfl, e3, e5⟩ := map2 hm
          have h1 : (isEk (kindI x) && kindI y == 5) = true := h1
          simp only [Bool.and_eq_true, beq_iff_eq] at h1
          exact .for1 a x y (sh_wx (hL x (by simp)) h1.1) ((ih y (hkid y (by simp)) (hL y (by simp))).2 h1.2)
      · simp [mostK] at h2
        obtain rfl : n = 0 := by omega
        simp [named] at hT
        subst hT
        have h1 : (match ks.map kindI with | [a] => isEk a | _ => false) = true := hF
        obtain ⟨b, e1, e2⟩ := fit1 h1
        obtain ⟨x, rfl, e3⟩ := map1 e1
        exact .ret 11 a x (by omega) (sh_wx (hL x (by simp)) (by rw [e3]; exact e2))
      · simp [mostK] at h2
        obtain rfl : n = 0 := by omega
        simp [named] at hT
        subst hT
        have h1 : (match ks.map kindI with | [a] => isEk a | _ => false) = true := hF
        obtain ⟨b, e1, e2⟩ := fit1 h1
        obtain ⟨x, rfl, e3⟩ := map1 e1
        exact .ret 12 a x (by omega) (sh_wx (hL x (by simp)) (by rw [e3]; exact e2))
      · simp [mostK] at h2
        obtain rfl : n = 0 := by omega
        simp [named] at hT
        subst hT
        have h1 : (match ks.map kindI with | [a] => isEk a | _ => false) = true := hF
        obtain ⟨b, e1, e2⟩ := fit1 h1
        obtain ⟨x, rfl, e3⟩ := map1 e1
        exact .ret 13 a x (by omega) (sh_wx (hL x (by simp)) (by rw [e3]; exact e2))
      · simp [mostK] at h2
        obtain rfl : n = 0 := by omega
        simp [fitsK] at hF
        subst hF
        exact .read t a
      · simp [mostK] at h2
        obtain rfl : n = 0 := by omega
        have h1 : (match ks.map kindI with | c :: r => c == 16 && r.all isEk | [] => false) = true := hF
        match ks, h1, hL, h.2 with
        | .mk k' t' n' a' ks' :: l, h1, hL, hh =>
          simp only [List.map_cons, Bool.and_eq_true, beq_iff_eq, kindI] at h1
          obtain ⟨rfl, h1⟩ := h1
          have o' := okN_iff.1 (hL (.mk 16 t' n' a' ks') (by simp)).1
          have f' := o'.fit
          have a1 := o'.hi
          have a2 := o'.lo
          simp [fitsK] at f'
          simp [mostK] at a1
          obtain rfl : n' = 0 := by omega
          subst f'
          exact .call t a t' a' l (shL_wxs hh.2 h1)
    · have hk : k = 5 := hk
      subst hk
      simp [mostK] at h2
      obtain rfl : n = 0 := by omega
      simp [named] at hT
      subst hT
      have h1 : (ks.map kindI).all isSk = true := hF
      refine .block a ks (fun x hx => (ih x (hkid x hx) (hL x hx)).1 ?_)
      exact List.all_eq_true.1 h1 _ (List.mem_map.2 ⟨x, hx, rfl⟩)
theorem shaped_wd {x : Item} (h : ShapedI x) (hk : isDk (kindI x) = true) : WD x := by
  obtain ⟨k, t, n, a, ks⟩ := x
  have o := okN_iff.1 h.1
  have hF := o.fit
  have hL := shapedL_mem h.2
  have h2 := o.hi
  have h3 := o.lo
  have hkk : k = 2 ∨ k = 3 := isDk_iff.1 hk
  rcases hkk with rfl | rfl
  · simp [fitsK] at hF
    subst hF
    exact .array t n a
  · simp [mostK] at h2
    obtain rfl : n = 0 := by omega
    have h1 : (((ks.map kindI).getLast? == some 5) && (ks.map kindI).dropLast.all (· == 4)) = true := hF
    simp only [Bool.and_eq_true, beq_iff_eq] at h1
    obtain ⟨h1, h4⟩ := h1
    rcases List.eq_nil_or_concat ks with rfl | ⟨l, b, rfl⟩
    · simp at h1
    · rw [List.concat_eq_append] at *
      simp only [List.map_append, List.map_cons, List.map_nil, List.getLast?_append, List.getLast?_singleton, Option.some_or, Option.some.injEq, List.dropLast_concat] at h1 h4
      refine .func t a l b (fun x hx => ?_) ((shaped_ws _ b (Nat.le_refl _) (hL b (by simp))).2 h1)
      have hx4 : kindI x = 4 := by simpa using List.all_eq_true.1 h4 _ (List.mem_map.2 ⟨x, hx, rfl⟩)
      have hxs := hL x (by simp [hx])
      obtain ⟨k', t', n', a', ks'⟩ := x
      have hx4 : k' = 4 := hx4
      subst hx4
      have o' := okN_iff.1 hxs.1
      have f' := o'.fit
      have a1 := o'.hi
      have a2 := o'.lo
      simp [fitsK] at f'
      simp [mostK] at a1
      exact ⟨rfl, by omega, f'⟩
/-- SHAPED, A PROGRAM: a shaped program. -/
theorem shaped_wp {x : Item} (h : ShapedI x) (hk : kindI x = 1) : WP x ∧ GoodI x := by
  refine ⟨?_, shaped_good h⟩
  obtain ⟨k, t, n, a, ks⟩ := x
  have hk : k = 1 := hk
  subst hk
  have o := okN_iff.1 h.1
  have hT := o.text
  have h2 := o.hi
  have h3 := o.lo
  simp [mostK] at h2
  simp [named] at hT
  have h1 : (ks.map kindI).all isDk = true := o.fit
  exact ⟨rfl, hT, by omega, fun x hx => shaped_wd (shapedL_mem h.2 x hx) (List.all_eq_true.1 h1 _ (List.mem_map.2 ⟨x, hx, rfl⟩))⟩

theorem nameOk_nil : nameOk [] = false := rfl
theorem ok_mk {k : Nat} {t : List UInt8} {n : Int} {l : List Nat} (hn : named k = true → nameOk t = true) (ht : named k = false → t = []) (h0 : 0 ≤ n) (h1 : n ≤ mostK k) (h2 : k < 20 ∨ 0 < n) (h3 : 1 ≤ k) (h4 : k ≤ 21) (h5 : fitsK k l = true) : okN k t n l = true := by
  refine okN_iff.2 ⟨?_, ?_, h0, h1, h2, h3, h4, h5⟩
  · cases hk : named k
    · rw [ht hk]; rfl
    · exact hn hk
  · cases hk : named k
    · exact Or.inr (ht hk)
    · exact Or.inl rfl
theorem wx_kind {x : Item} (h : WX x) : isEk (kindI x) = true := by
  rcases WX_cases h with ⟨_, _, rfl⟩ | ⟨_, _, rfl⟩ | ⟨_, _, _, rfl, _⟩ | ⟨_, _, _, rfl, _⟩ | ⟨_, _, _, _, rfl, _⟩ <;> rfl
theorem wx_shaped : ∀ (N : Nat) (x : Item), sizeI x ≤ N → WX x → GoodI x → ShapedI x
  | 0, x, hs, _, _ => by have := sizeI_pos x; omega
  | N + 1, .mk k t n a ks, hs, h, hg => by
    obtain ⟨g1, g2, g3⟩ := hg
    have ih := wx_shaped N
    simp only [sizeI] at hs
    match k, ks, h, g1, g3, hs with
    | 17, ks, h, g1, g3, hs =>
      obtain ⟨rfl, rfl⟩ := h
      exact ⟨ok_mk (fun h => by cases h) (fun _ => rfl) g2.1 (by simpa [mostK] using g2.2) (Or.inl (by omega)) (by omega) (by omega) rfl, trivial⟩
    | 18, ks, h, g1, g3, hs =>
      obtain ⟨rfl, rfl⟩ := h
      exact ⟨ok_mk g1 (fun h => by cases h) g2.1 (by simp [mostK]) (Or.inl (by omega)) (by omega) (by omega) rfl, trivial⟩
    | 19, [x], h, g1, g3, hs =>
      obtain ⟨rfl, hx⟩ := h
      simp only [sizeL] at hs
      exact ⟨ok_mk g1 (fun h => by cases h) g2.1 (by simp [mostK]) (Or.inl (by omega)) (by omega) (by omega) (wx_kind hx), ih x (by omega) hx g3.1, trivial⟩
    | 20, [x], h, g1, g3, hs =>
      obtain ⟨rfl, hn, hx⟩ := h
      simp only [sizeL] at hs
      exact ⟨ok_mk (fun h => by cases h) (fun _ => rfl) g2.1 (by simp [mostK]; omega) (Or.inr (by omega)) (by omega) (by omega) (wx_kind hx), ih x (by omega) hx g3.1, trivial⟩
    | 21, [x, y], h, g1, g3, hs =>
      obtain ⟨rfl, hn, hx, hy⟩ := h
      simp only [sizeL] at hs
      refine ⟨ok_mk (fun h => by cases h) (fun _ => rfl) g2.1 (by simp [mostK]; omega) (Or.inr (by omega)) (by omega) (by omega) ?_, ih x (by omega) hx g3.1, ih y (by omega) hy g3.2.1, trivial⟩
      show (isEk (kindI x) && isEk (kindI y)) = true
      rw [wx_kind hx, wx_kind hy]; rfl
theorem wx_sh {x : Item} (h : WX x) (hg : GoodI x) : ShapedI x := wx_shaped _ x (Nat.le_refl _) h hg
theorem wxs_sh : ∀ {l : List Item}, WXs l → GoodL l → ShapedL l ∧ (l.map kindI).all isEk = true
  | [], _, _ => ⟨trivial, rfl⟩
  | x :: r, h, hg => by
    obtain ⟨h1, h2⟩ := wxs_sh h.2 hg.2
    exact ⟨⟨wx_sh h.1 hg.1, h1⟩, by simp only [List.map_cons, List.all_cons, wx_kind h.1, h2]; rfl⟩
theorem ws_kind {b : Bool} {x : Item} (h : WS b x) : (b = true → isSk (kindI x) = true) ∧ (b = false → kindI x = 5) := by
  cases h with
  | block a l hl => exact ⟨fun h => (by cases h), fun _ => rfl⟩
  | ret k a x hk hx => exact ⟨fun _ => by rcases hk with rfl | rfl | rfl <;> rfl, fun h => by cases h⟩
  | _ => exact ⟨fun _ => rfl, fun h => by cases h⟩
theorem ws_shaped : ∀ (N : Nat) (b : Bool) (x : Item), sizeI x ≤ N → WS b x → GoodI x → ShapedI x
  | 0, _, x, hs, _, _ => by have := sizeI_pos x; omega
  | N + 1, b, x, hs, h, hg => by
    have ih := ws_shaped N
    cases h with
    | block a l hl =>
      obtain ⟨g1, g2, g3⟩ := hg
      simp only [sizeI] at hs
      refine ⟨ok_mk (fun h => by cases h) (fun _ => rfl) g2.1 (by simp [mostK]) (Or.inl (by omega)) (by omega) (by omega) ?_, ?_⟩
      · show (l.map kindI).all isSk = true
        rw [List.all_eq_true]
        intro k hk
        obtain ⟨x, hx, rfl⟩ := List.mem_map.1 hk
        exact (ws_kind (hl x hx)).1 rfl
      · exact shapedL_of (fun x hx => ih true x (by have := sizeL_mem hx; omega) (hl x hx) (goodL_mem g3 x hx))
    | declare t a x hx =>
      obtain ⟨g1, g2, g3⟩ := hg
      exact ⟨ok_mk g1 (fun h => by cases h) g2.1 (by simp [mostK]) (Or.inl (by omega)) (by omega) (by omega) (wx_kind hx), wx_sh hx g3.1, trivial⟩
    | assign t a x hx =>
      obtain ⟨g1, g2, g3⟩ := hg
      exact ⟨ok_mk g1 (fun h => by cases h) g2.1 (by simp [mostK]) (Or.inl (by omega)) (by omega) (by omega) (wx_kind hx), wx_sh hx g3.1, trivial⟩
    | store t a x y hx hy =>
      obtain ⟨g1, g2, g3⟩ := hg
      refine ⟨ok_mk g1 (fun h => by cases h) g2.1 (by simp [mostK]) (Or.inl (by omega)) (by omega) (by omega) ?_, wx_sh hx g3.1, wx_sh hy g3.2.1, trivial⟩
      show (isEk (kindI x) && isEk (kindI y)) = true
      rw [wx_kind hx, wx_kind hy]; rfl
    | if1 a x c hx hc =>
      obtain ⟨g1, g2, g3⟩ := hg
      simp only [sizeI, sizeL] at hs
      refine ⟨ok_mk (fun h => by cases h) (fun _ => rfl) g2.1 (by simp [mostK]) (Or.inl (by omega)) (by omega) (by omega) ?_, wx_sh hx g3.1, ih false c (by omega) hc g3.2.1, trivial⟩
      show (isEk (kindI x) && kindI c == 5) = true
      rw [wx_kind hx, (ws_kind hc).2 rfl]; rfl
    | if2 a x c d hx hc hd =>
      obtain ⟨g1, g2, g3⟩ := hg
      simp only [sizeI, sizeL] at hs
      refine ⟨ok_mk (fun h => by cases h) (fun _ => rfl) g2.1 (by simp [mostK]) (Or.inl (by omega)) (by omega) (by omega) ?_, wx_sh hx g3.1, ih false c (by omega) hc g3.2.1, ih false d (by omega) hd g3.2.2.1, trivial⟩
      show (isEk (kindI x) && kindI c == 5 && kindI d == 5) = true
      rw [wx_kind hx, (ws_kind hc).2 rfl, (ws_kind hd).2 rfl]; rfl
    | for1 a x c hx hc =>
      obtain ⟨g1, g2, g3⟩ := hg
      simp only [sizeI, sizeL] at hs
      refine ⟨ok_mk (fun h => by cases h) (fun _ => rfl) g2.1 (by simp [mostK]) (Or.inl (by omega)) (by omega) (by omega) ?_, wx_sh hx g3.1, ih false c (by omega) hc g3.2.1, trivial⟩
      show (isEk (kindI x) && kindI c == 5) = true
      rw [wx_kind hx, (ws_kind hc).2 rfl]; rfl
    | ret k a x hk hx =>
      obtain ⟨g1, g2, g3⟩ := hg
      refine ⟨ok_mk (fun h => by rcases hk with rfl | rfl | rfl <;> cases h) (fun _ => rfl) g2.1 (by rcases hk with rfl | rfl | rfl <;> simp [mostK]) (Or.inl (by omega)) (by omega) (by omega) ?_, wx_sh hx g3.1, trivial⟩
      have e : isEk (kindI x) = true := wx_kind hx
      rcases hk with rfl | rfl | rfl <;> exact e
    | read t a =>
      obtain ⟨g1, g2, g3⟩ := hg
      exact ⟨ok_mk g1 (fun h => by cases h) g2.1 (by simp [mostK]) (Or.inl (by omega)) (by omega) (by omega) rfl, trivial⟩
    | call t a u b l hl =>
      obtain ⟨g1, g2, g3⟩ := hg
      obtain ⟨s1, s2⟩ := wxs_sh hl g3.2
      obtain ⟨c1, c2, c3⟩ := g3.1
      refine ⟨ok_mk g1 (fun h => by cases h) g2.1 (by simp [mostK]) (Or.inl (by omega)) (by omega) (by omega) ?_, ⟨ok_mk c1 (fun h => by cases h) c2.1 (by simp [mostK]) (Or.inl (by omega)) (by omega) (by omega) rfl, trivial⟩, s1⟩
      show ((16 : Nat) == 16 && (l.map kindI).all isEk) = true
      rw [s2]; rfl
theorem ws_sh {b : Bool} {x : Item} (h : WS b x) (hg : GoodI x) : ShapedI x := ws_shaped _ b x (Nat.le_refl _) h hg
/-- A SHAPED PROGRAM is shaped. -/
theorem wp_shaped {x : Item} (h : WP x) (hg : GoodI x) : ShapedI x ∧ kindI x = 1 := by
  obtain ⟨k, t, n, a, ks⟩ := x
  obtain ⟨rfl, rfl, rfl, hl⟩ := h
  obtain ⟨g1, g2, g3⟩ := hg
  have hd : ∀ x ∈ ks, ShapedI x ∧ isDk (kindI x) = true := by
    intro x hx
    have hgx := goodL_mem g3 x hx
    cases hl x hx with
    | array t n a =>
      obtain ⟨g1, g2, g3⟩ := hgx
      exact ⟨⟨ok_mk g1 (fun h => by cases h) g2.1 (by simpa [mostK] using g2.2) (Or.inl (by omega)) (by omega) (by omega) rfl, trivial⟩, rfl⟩
    | func t a l b hl hb =>
      obtain ⟨g1, g2, g3⟩ := hgx
      refine ⟨⟨ok_mk g1 (fun h => by cases h) g2.1 (by simp [mostK]) (Or.inl (by omega)) (by omega) (by omega) ?_, shapedL_of (fun x hx => ?_)⟩, rfl⟩
      · show (((l ++ [b]).map kindI).getLast? == some 5 && ((l ++ [b]).map kindI).dropLast.all (· == 4)) = true
        simp only [List.map_append, List.map_cons, List.map_nil, List.getLast?_append, List.getLast?_singleton, Option.some_or, List.dropLast_concat, (ws_kind hb).2 rfl]
        simp only [Bool.and_eq_true, List.all_eq_true]
        refine ⟨rfl, fun k hk => ?_⟩
        obtain ⟨x, hx, rfl⟩ := List.mem_map.1 hk
        have := hl x hx
        obtain ⟨k', t', n', a', ks'⟩ := x
        obtain ⟨rfl, _, _⟩ := this
        rfl
      · rcases List.mem_append.1 hx with hx | hx
        · have h1 := hl x hx
          have hgx := goodL_mem g3 x (by simp [hx])
          obtain ⟨k', t', n', a', ks'⟩ := x
          obtain ⟨rfl, rfl, rfl⟩ := h1
          obtain ⟨g1, g2, g3⟩ := hgx
          exact ⟨ok_mk g1 (fun h => by cases h) g2.1 (by simp [mostK]) (Or.inl (by omega)) (by omega) (by omega) rfl, trivial⟩
        · obtain rfl : x = b := by simpa using hx
          exact ws_sh hb (goodL_mem g3 x (by simp))
  refine ⟨⟨ok_mk (fun h => by cases h) (fun _ => rfl) g2.1 (by simp [mostK]) (Or.inl (by omega)) (by omega) (by omega) ?_, shapedL_of (fun x hx => (hd x hx).1)⟩, rfl⟩
  show (ks.map kindI).all isDk = true
  rw [List.all_eq_true]
  intro k hk
  obtain ⟨x, hx, rfl⟩ := List.mem_map.1 hk
  exact (hd x hx).2

/-- The kinds of a node's kids. -/
def kidKinds (T : List GN) (g : GN) : List Nat := g.kids.map (fun k => ((T[k.toNat]?).map (·.kind)).getD 0)
def okG (T : List GN) (g : GN) : Bool := okN g.kind g.text g.n (kidKinds T g)
theorem atL_kinds {T : List GN} : ∀ {l : List Item} {i : Nat}, AtL T i l → ((offs i l).map (fun k : Nat => (k : Int))).map (fun k => ((T[k.toNat]?).map (·.kind)).getD 0) = l.map kindI
  | [], _, _ => rfl
  | .mk k t n a ks :: r, i, h => by
    have ih := atL_kinds h.2
    obtain ⟨⟨_, h1⟩, _⟩ := h.1
    simp only [offs, List.map_cons, kindI]
    rw [ih]
    congr 1
    simp only [Int.toNat_natCast, h1]
    rfl
mutual
theorem at_shaped {T : List GN} : ∀ {x : Item} {i : Nat}, AtI T i x → (ShapedI x ↔ ∀ j g, i ≤ j → j < i + sizeI x → T[j]? = some g → okG T g = true)
  | .mk k t n a ks, i, h => by
    have ih := atL_shaped h.2
    obtain ⟨⟨b, h1⟩, h2⟩ := h
    have hk := atL_kinds h2
    constructor
    · intro hs j g hj1 hj2 hg
      by_cases hj : j = i
      · subst hj
        rw [h1] at hg; injection hg with hg; subst hg
        unfold okG kidKinds
        simp only
        rw [hk]; exact hs.1
      · exact ih.1 hs.2 j g (by omega) (by simp only [sizeI] at hj2; omega) hg
    · intro hs
      refine ⟨?_, ih.2 (fun j g hj1 hj2 hg => hs j g (by omega) (by simp only [sizeI]; omega) hg)⟩
      have := hs i _ (Nat.le_refl _) (by simp only [sizeI]; omega) h1
      unfold okG kidKinds at this
      simp only at this
      rw [hk] at this; exact this
theorem atL_shaped {T : List GN} : ∀ {l : List Item} {i : Nat}, AtL T i l → (ShapedL l ↔ ∀ j g, i ≤ j → j < i + sizeL l → T[j]? = some g → okG T g = true)
  | [], i, _ => ⟨fun _ j g h1 h2 _ => by simp only [sizeL] at h2; omega, fun _ => trivial⟩
  | x :: r, i, h => by
    have i1 := at_shaped h.1
    have i2 := atL_shaped h.2
    constructor
    · intro hs j g h1 h2 hg
      by_cases hj : j < i + sizeI x
      · exact i1.1 hs.1 j g h1 hj hg
      · exact i2.1 hs.2 j g (by omega) (by simp only [sizeL] at h2; omega) hg
    · intro hs
      exact ⟨i1.2 (fun j g h1 h2 hg => hs j g h1 (by simp only [sizeL]; omega) hg), i2.2 (fun j g h1 h2 hg => hs j g (by omega) (by simp only [sizeL]; omega) hg)⟩
end
end Go.Proofs.YtkkeocnnecegbaaGreatDoor

/- Plain law: each token that a shaped program is printed as has just itself. By an AI agent. -/
namespace Go.Proofs.YtkkeocnnecegbaaGreatDoor
open Go.RowKit

theorem dd_one {v : Nat} (h : v < 10) : Lib.decDigits v = [UInt8.ofNat (48 + v)] := Lib.decDigits_one h
theorem dd_more {v : Nat} (h : ¬ v < 10) : Lib.decDigits v = Lib.decDigits (v / 10) ++ [UInt8.ofNat (48 + v % 10)] := by
  rw [Lib.decDigits, dif_neg h]
theorem digit_nat (d : Nat) (h : d < 10) : (UInt8.ofNat (48 + d)).toNat = 48 + d := by
  rw [UInt8.toNat_ofNat']; omega
theorem parse_app {M : Nat} {c : UInt8} (hM : M ≤ 2147483647) (h1 : 48 ≤ c.toNat ∧ c.toNat ≤ 57) : ∀ (l : List UInt8) (acc v : Nat), acc ≤ M → Lib.parseUintM M acc l = .ok v → v * 10 + (c.toNat - 48) ≤ M → Lib.parseUintM M acc (l ++ [c]) = .ok (v * 10 + (c.toNat - 48))
  | [], acc, v, ha, h, hv => by
    simp only [Lib.parseUintM] at h
    injection h with h
    subst h
    simp only [List.nil_append, Lib.parseUintM, if_pos h1]
    rw [if_neg (by omega), if_neg (by omega)]
  | d :: r, acc, v, ha, h, hv => by
    simp only [Lib.parseUintM] at h
    split at h
    · rename_i hd
      split at h
      · cases h
      · rename_i h2
        split at h
        · cases h
        · rename_i h3
          simp only [List.cons_append, Lib.parseUintM, if_pos hd, if_neg h2, if_neg h3]
          exact parse_app hM h1 r _ v (by omega) h hv
    · cases h
theorem parse_dd {M : Nat} (hM : M ≤ 2147483647) : ∀ (N v : Nat), v ≤ N → v ≤ M → Lib.parseUintM M 0 (Lib.decDigits v) = .ok v := by
  intro N
  induction N with
  | zero =>
    intro v h hv
    obtain rfl : v = 0 := by omega
    rw [dd_one (by omega)]
    simp only [Lib.parseUintM]
    rw [digit_nat 0 (by omega), if_pos (by omega), if_neg (by omega), if_neg (by omega)]
  | succ N ih =>
    intro v h hv
    by_cases h9 : v < 10
    · rw [dd_one h9]
      simp only [Lib.parseUintM]
      rw [digit_nat v h9, if_pos (by omega), if_neg (by omega), if_neg (by omega)]
      congr 1; omega
    · rw [dd_more h9]
      have hd := digit_nat (v % 10) (by omega)
      have := parse_app (c := UInt8.ofNat (48 + v % 10)) hM (by rw [hd]; omega) (Lib.decDigits (v / 10)) 0 (v / 10) (Nat.zero_le _) (ih (v / 10) (by omega) (by omega)) (by rw [hd]; omega)
      rw [this, hd]
      congr 1; omega
theorem dd_dig : ∀ (N v : Nat), v ≤ N → ∀ c ∈ Lib.decDigits v, 48 ≤ c.toNat ∧ c.toNat ≤ 57 := by
  intro N
  induction N with
  | zero =>
    intro v h c hc
    obtain rfl : v = 0 := by omega
    rw [dd_one (by omega), List.mem_singleton] at hc
    rw [hc, digit_nat 0 (by omega)]; omega
  | succ N ih =>
    intro v h c hc
    by_cases h9 : v < 10
    · rw [dd_one h9, List.mem_singleton] at hc
      rw [hc, digit_nat v h9]; omega
    · rw [dd_more h9] at hc
      rcases List.mem_append.1 hc with hc | hc
      · exact ih (v / 10) (by omega) c hc
      · rw [List.mem_singleton] at hc
        rw [hc, digit_nat _ (by omega)]; omega
theorem dd_head : ∀ (N v : Nat), v ≤ N → 0 < v → ∃ c r, Lib.decDigits v = c :: r ∧ 49 ≤ c.toNat := by
  intro N
  induction N with
  | zero => intro v h h0; omega
  | succ N ih =>
    intro v h h0
    by_cases h9 : v < 10
    · rw [dd_one h9]
      exact ⟨_, _, rfl, by rw [digit_nat v h9]; omega⟩
    · rw [dd_more h9]
      obtain ⟨c, r, h1, h2⟩ := ih (v / 10) (by omega) (by omega)
      rw [h1]
      exact ⟨c, _, rfl, h2⟩
theorem numS_itoa {n : Int} (h0 : 0 ≤ n) (h1 : n ≤ 2147483647) : numS (Lib.itoa n) = some n := by
  obtain ⟨v, rfl⟩ := Int.eq_ofNat_of_zero_le h0
  rw [Lib.itoa_nonneg]
  unfold numS
  rw [parse_dd (Nat.le_refl _) v v (Nat.le_refl _) (by omega)]
  simp only
  rw [if_neg]
  rintro ⟨h2, h3⟩
  by_cases hv : v = 0
  · subst hv
    exact h2 (by rw [dd_one (by omega)]; rfl)
  · obtain ⟨c, r, e1, e2⟩ := dd_head v v (Nat.le_refl _) (by omega)
    rw [e1] at h3
    simp only [List.head?_cons, Option.some.injEq] at h3
    rw [h3] at e2
    exact absurd e2 (by decide)

/-- A token's text has just itself. -/
def SelfK (x : Tk) : Prop := ∃ c r, x.2.1 = c :: r ∧ isBlk c = false ∧ tokAt (c :: r) = .ok (x.1, (c :: r).length, x.2.2)
theorem dig_nat {c : UInt8} (h : 48 ≤ c.toNat ∧ c.toNat ≤ 57) : isDig c = true := by
  unfold isDig
  simp only [Bool.and_eq_true, decide_eq_true_eq, UInt8.le_iff_toNat_le]
  exact h
theorem dig_let {c : UInt8} (h : 48 ≤ c.toNat ∧ c.toNat ≤ 57) : isLet c = false := by
  unfold isLet
  cases hh : (c == 95 || decide (97 ≤ c) && decide (c ≤ 122) || decide (65 ≤ c) && decide (c ≤ 90))
  · rfl
  · exfalso
    simp only [Bool.or_eq_true, Bool.and_eq_true, decide_eq_true_eq, UInt8.le_iff_toNat_le, beq_iff_eq] at hh
    have e1 : (97 : UInt8).toNat = 97 := rfl
    have e2 : (65 : UInt8).toNat = 65 := rfl
    rcases hh with (hh | hh) | hh
    · subst hh; exact absurd h (by decide)
    · omega
    · omega
theorem dig_blk {c : UInt8} (h : 48 ≤ c.toNat ∧ c.toNat ≤ 57) : isBlk c = false := by
  unfold isBlk
  cases hh : (c == 32 || c == 9 || c == 13 || c == 10)
  · rfl
  · exfalso
    simp only [Bool.or_eq_true, beq_iff_eq] at hh
    rcases hh with ((rfl | rfl) | rfl) | rfl <;> exact absurd h (by decide)
theorem let_blk' {c : UInt8} (h : isLet c = true) : isBlk c = false := by
  cases hh : isBlk c
  · rfl
  · exfalso
    unfold isBlk at hh
    simp only [Bool.or_eq_true, beq_iff_eq] at hh
    rcases hh with ((rfl | rfl) | rfl) | rfl <;> exact absurd h (by decide)
theorem self_nb {n : Int} (h0 : 0 ≤ n) (h1 : n ≤ 2147483647) : SelfK (nb n) := by
  have hn := numS_itoa h0 h1
  obtain ⟨v, rfl⟩ := Int.eq_ofNat_of_zero_le h0
  unfold SelfK nb
  simp only
  rw [Lib.itoa_nonneg] at hn ⊢
  have hd := dd_dig v v (Nat.le_refl _)
  have hne : Lib.decDigits v ≠ [] := by
    rw [Lib.decDigits]; split <;> simp
  generalize Lib.decDigits v = l at *
  match l, hne with
  | c :: r, _ =>
    have hc := hd c (by simp)
    refine ⟨c, r, rfl, dig_blk hc, ?_⟩
    have hm : manyS isDig (c :: r) = (c :: r).length := manyS_all (fun i hi => dig_nat (hd _ (List.getElem_mem hi)))
    simp only [tokAt, dig_let hc, dig_nat hc, hm, List.take_length, hn, if_true]
    rfl
theorem self_nm {t : List UInt8} (h : nameOk t = true) : SelfK (nm t) := by
  cases t with
  | nil => cases h
  | cons c r =>
    simp only [nameOk, Bool.and_eq_true, Bool.not_eq_true', beq_iff_eq] at h
    obtain ⟨⟨h1, h2⟩, h3⟩ := h
    refine ⟨c, r, rfl, let_blk' h1, ?_⟩
    simp only [tokAt, h1, if_true, h3, List.take_length, h2]
    rfl
/-- Rows whose tokens have just themselves. -/
def SelfL (l : List Tk) : Prop := ∀ x ∈ l, SelfK x
theorem selfL_nil : SelfL [] := fun x h => by cases h
theorem selfL_cons {x : Tk} {l : List Tk} (h : SelfK x) (hl : SelfL l) : SelfL (x :: l) := by
  intro y hy
  rcases List.mem_cons.1 hy with rfl | hy
  · exact h
  · exact hl y hy
theorem selfL_app {a b : List Tk} (h : SelfL a) (hl : SelfL b) : SelfL (a ++ b) := by
  intro y hy
  rcases List.mem_append.1 hy with hy | hy
  · exact h y hy
  · exact hl y hy
theorem self_wd {x : List UInt8} (h : x ∈ wordL) : SelfK (wd x) := by
  simp only [wordL, List.mem_cons, List.not_mem_nil, or_false] at h
  rcases h with rfl | rfl | rfl | rfl | rfl | rfl | rfl | rfl | rfl | rfl <;> exact ⟨_, _, rfl, by decide, rfl⟩
theorem self_m {c : UInt8} (h : c ∈ markL) : SelfK (mk4 [c]) := by
  simp only [markL, List.mem_cons, List.not_mem_nil, or_false] at h
  rcases h with rfl | rfl | rfl | rfl | rfl | rfl | rfl | rfl | rfl | rfl | rfl | rfl | rfl | rfl | rfl | rfl | rfl | rfl | rfl <;> exact ⟨_, _, rfl, by decide, rfl⟩
theorem self_bin {n : Nat} (h1 : 1 ≤ n) (h2 : n ≤ 14) : SelfK (mk4 (markText n)) := by
  have : n = 1 ∨ n = 2 ∨ n = 3 ∨ n = 4 ∨ n = 5 ∨ n = 6 ∨ n = 7 ∨ n = 8 ∨ n = 9 ∨ n = 10 ∨ n = 11 ∨ n = 12 ∨ n = 13 ∨ n = 14 := by omega
  rcases this with rfl | rfl | rfl | rfl | rfl | rfl | rfl | rfl | rfl | rfl | rfl | rfl | rfl | rfl <;> exact ⟨_, _, rfl, by decide, rfl⟩

theorem outX_self : ∀ (N : Nat) (x : Item), sizeI x ≤ N → WX x → GoodI x → ∀ of, SelfL (outX of x) := by
  intro N
  induction N with
  | zero => intro x h; have := sizeI_pos x; omega
  | succ N ih =>
    intro x hN hw hg of
    rcases WX_cases hw with ⟨n, a, rfl⟩ | ⟨t, a, rfl⟩ | ⟨t, a, y, rfl, hy⟩ | ⟨n, a, y, rfl, hn, hy⟩ | ⟨n, a, y, z, rfl, hn1, hn2, hy, hz⟩
    · obtain ⟨_, g, _⟩ := hg
      exact selfL_cons (self_nb g.1 g.2) selfL_nil
    · obtain ⟨g, _, _⟩ := hg
      exact selfL_cons (self_nm (g rfl)) selfL_nil
    · obtain ⟨g, _, g3⟩ := hg
      simp only [sizeI, sizeL] at hN
      exact selfL_cons (self_nm (g rfl)) (selfL_cons (self_m (by decide)) (selfL_app (ih y (by omega) hy g3.1 1) (selfL_cons (self_m (by decide)) selfL_nil)))
    · obtain ⟨_, _, g3⟩ := hg
      simp only [sizeI, sizeL] at hN
      simp only [outX]
      refine selfL_cons ?_ (ih y (by omega) hy g3.1 4)
      split
      · exact self_m (by decide)
      · exact self_m (by decide)
    · obtain ⟨_, _, g3⟩ := hg
      simp only [sizeI, sizeL] at hN
      have h1 := ih y (by omega) hy g3.1 (levelN ((n : Int)).toNat)
      have h2 := ih z (by omega) hz g3.2.1 (levelN ((n : Int)).toNat + 1)
      have hm : SelfK (mk4 (markText ((n : Int)).toNat)) := self_bin (by omega) (by omega)
      simp only [outX]
      split
      · exact selfL_cons (self_m (by decide)) (selfL_app (selfL_app h1 (selfL_cons hm h2)) (selfL_cons (self_m (by decide)) selfL_nil))
      · exact selfL_app h1 (selfL_cons hm h2)
theorem outX_sf {x : Item} (h : WX x) (hg : GoodI x) (of : Nat) : SelfL (outX of x) := outX_self _ x (Nat.le_refl _) h hg of
theorem outA_self : ∀ (l : List Item) (b : Bool), WXs l → GoodL l → SelfL (outA b l)
  | [], _, _, _ => selfL_nil
  | x :: r, b, h, hg => by
    have h1 := outX_sf h.1 hg.1 1
    have h2 := outA_self r false h.2 hg.2
    cases b
    · exact selfL_app (selfL_cons (self_m (by decide)) selfL_nil) (selfL_app h1 h2)
    · exact selfL_app selfL_nil (selfL_app h1 h2)
theorem outPs_self : ∀ (l : List Item) (b : Bool), (∀ x ∈ l, WN 4 x) → GoodL l → SelfL (outPs b l)
  | [], _, _, _ => selfL_nil
  | x :: r, b, h, hg => by
    have h2 := outPs_self r false (fun z hz => h z (List.mem_cons_of_mem _ hz)) hg.2
    have h1 : SelfK (nm (textI x)) := by
      obtain ⟨k, t, n, a, ks⟩ := x
      have hw := h _ (List.mem_cons_self ..)
      simp only [WN] at hw
      obtain ⟨rfl, _, _⟩ := hw
      exact self_nm (hg.1.1 rfl)
    cases b
    · exact selfL_app (selfL_cons (self_m (by decide)) selfL_nil) (selfL_cons h1 h2)
    · exact selfL_app selfL_nil (selfL_cons h1 h2)
theorem outS_self : ∀ (N : Nat) (b : Bool) (x : Item), sizeI x ≤ N → WS b x → GoodI x → SelfL (outS x) := by
  intro N
  induction N with
  | zero => intro b x h; have := sizeI_pos x; omega
  | succ N ih =>
    intro b x hN hw hg
    cases hw with
    | block a l hl =>
      obtain ⟨_, _, g3⟩ := hg
      simp only [sizeI] at hN
      have key : ∀ l : List Item, (∀ x ∈ l, WS true x) → GoodL l → sizeL l ≤ N → SelfL (outSs l) := by
        intro l
        induction l with
        | nil => intro _ _ _; exact selfL_nil
        | cons y r ihl =>
          intro h1 hg h2
          simp only [sizeL] at h2
          exact selfL_app (ih true y (by omega) (h1 y (List.mem_cons_self ..)) hg.1) (ihl (fun z hz => h1 z (List.mem_cons_of_mem _ hz)) hg.2 (by omega))
      exact selfL_cons (self_m (by decide)) (selfL_app (key l hl g3 (by omega)) (selfL_cons (self_m (by decide)) selfL_nil))
    | declare t a x hx =>
      obtain ⟨g, _, g3⟩ := hg
      exact selfL_cons (self_wd (by decide)) (selfL_cons (self_nm (g rfl)) (selfL_cons (self_m (by decide)) (selfL_app (outX_sf hx g3.1 1) (selfL_cons (self_m (by decide)) selfL_nil))))
    | assign t a x hx =>
      obtain ⟨g, _, g3⟩ := hg
      exact selfL_cons (self_nm (g rfl)) (selfL_cons (self_m (by decide)) (selfL_app (outX_sf hx g3.1 1) (selfL_cons (self_m (by decide)) selfL_nil)))
    | store t a x y hx hy =>
      obtain ⟨g, _, g3⟩ := hg
      exact selfL_cons (self_nm (g rfl)) (selfL_cons (self_m (by decide)) (selfL_app (outX_sf hx g3.1 1) (selfL_cons (self_m (by decide)) (selfL_cons (self_m (by decide)) (selfL_app (outX_sf hy g3.2.1 1) (selfL_cons (self_m (by decide)) selfL_nil))))))
    | if1 a x b hx hb =>
      obtain ⟨_, _, g3⟩ := hg
      simp only [sizeI, sizeL] at hN
      exact selfL_cons (self_wd (by decide)) (selfL_app (outX_sf hx g3.1 1) (ih _ b (by omega) hb g3.2.1))
    | if2 a x b c hx hb hc =>
      obtain ⟨_, _, g3⟩ := hg
      simp only [sizeI, sizeL] at hN
      exact selfL_cons (self_wd (by decide)) (selfL_app (outX_sf hx g3.1 1) (selfL_app (ih _ b (by omega) hb g3.2.1) (selfL_cons (self_wd (by decide)) (ih _ c (by omega) hc g3.2.2.1))))
    | for1 a x b hx hb =>
      obtain ⟨_, _, g3⟩ := hg
      simp only [sizeI, sizeL] at hN
      exact selfL_cons (self_wd (by decide)) (selfL_app (outX_sf hx g3.1 1) (ih _ b (by omega) hb g3.2.1))
    | ret k a x hk hx =>
      obtain ⟨_, _, g3⟩ := hg
      have h1 := selfL_app (outX_sf hx g3.1 1) (selfL_cons (self_m (c := 59) (by decide)) selfL_nil)
      rcases hk with rfl | rfl | rfl
      · exact selfL_cons (self_wd (by decide)) h1
      · exact selfL_cons (self_wd (by decide)) h1
      · exact selfL_cons (self_wd (by decide)) h1
    | read t a =>
      obtain ⟨g, _, g3⟩ := hg
      exact selfL_cons (self_wd (by decide)) (selfL_cons (self_nm (g rfl)) (selfL_cons (self_m (by decide)) selfL_nil))
    | call t a u b l hl =>
      obtain ⟨g, _, g3⟩ := hg
      have hu := g3.1.1 rfl
      exact selfL_cons (self_wd (by decide)) (selfL_cons (self_nm (g rfl)) (selfL_cons (self_m (by decide)) (selfL_cons (self_nm hu) (selfL_cons (self_m (by decide)) (selfL_app (outA_self l true hl g3.2) (selfL_cons (self_m (by decide)) (selfL_cons (self_m (by decide)) selfL_nil)))))))
theorem goodL_split {a b : List Item} (h : GoodL (a ++ b)) : GoodL a ∧ GoodL b := ⟨goodL_of fun x hx => goodL_mem h x (List.mem_append_left _ hx), goodL_of fun x hx => goodL_mem h x (List.mem_append_right _ hx)⟩
theorem outD_self {x : Item} (h : WD x) (hg : GoodI x) : SelfL (outD x) := by
  cases h with
  | array t n a =>
    obtain ⟨g, g2, _⟩ := hg
    exact selfL_cons (self_wd (by decide)) (selfL_cons (self_nm (g rfl)) (selfL_cons (self_m (by decide)) (selfL_cons (self_nb g2.1 g2.2) (selfL_cons (self_m (by decide)) (selfL_cons (self_m (by decide)) selfL_nil)))))
  | func t a l b hl hb =>
    obtain ⟨g, _, g3⟩ := hg
    obtain ⟨g4, g5⟩ := goodL_split g3
    simp only [outD, List.dropLast_concat, List.getLast?_concat]
    exact selfL_cons (self_wd (by decide)) (selfL_cons (self_nm (g rfl)) (selfL_cons (self_m (by decide)) (selfL_app (outPs_self l true hl g4) (selfL_cons (self_m (by decide)) (outS_self _ false b (Nat.le_refl _) hb g5.1)))))
theorem outDs_self : ∀ l : List Item, (∀ x ∈ l, WD x) → GoodL l → SelfL (outDs l)
  | [], _, _ => selfL_nil
  | x :: r, h, hg => selfL_app (outD_self (h x (List.mem_cons_self ..)) hg.1) (outDs_self r (fun z hz => h z (List.mem_cons_of_mem _ hz)) hg.2)
theorem outP_self {x : Item} (h : WP x) (hg : GoodI x) : SelfL (outP x) := by
  obtain ⟨k, t, n, a, l⟩ := x
  exact outDs_self l h.2.2.2 hg.2.2
end Go.Proofs.YtkkeocnnecegbaaGreatDoor

/- Plain law: what a tree is printed as says nothing of places. By an AI agent. -/
namespace Go.Proofs.YtkkeocnnecegbaaGreatDoor
open Go.RowKit

theorem outX_er : ∀ (N : Nat) (x : Item), sizeI x ≤ N → WX x → ∀ of, outX of (erase x) = outX of x := by
  intro N
  induction N with
  | zero => intro x h; have := sizeI_pos x; omega
  | succ N ih =>
    intro x hN hw of
    rcases WX_cases hw with ⟨n, a, rfl⟩ | ⟨t, a, rfl⟩ | ⟨t, a, y, rfl, hy⟩ | ⟨n, a, y, rfl, hn, hy⟩ | ⟨n, a, y, z, rfl, hn1, hn2, hy, hz⟩
    · rfl
    · rfl
    · simp only [sizeI, sizeL] at hN
      simp only [erase, eraseL, outX, ih y (by omega) hy]
    · simp only [sizeI, sizeL] at hN
      simp only [erase, eraseL, outX, ih y (by omega) hy]
    · simp only [sizeI, sizeL] at hN
      simp only [erase, eraseL, outX, ih y (by omega) hy, ih z (by omega) hz]
theorem outX_erase {x : Item} (h : WX x) (of : Nat) : outX of (erase x) = outX of x := outX_er _ x (Nat.le_refl _) h of
theorem outA_erase : ∀ (l : List Item) (b : Bool), WXs l → outA b (eraseL l) = outA b l
  | [], _, _ => rfl
  | x :: r, b, h => by
    simp only [eraseL, outA, outX_erase h.1, outA_erase r false h.2]
theorem textI_erase (x : Item) : textI (erase x) = textI x := by cases x; rfl
theorem outPs_erase : ∀ (l : List Item) (b : Bool), outPs b (eraseL l) = outPs b l
  | [], _ => rfl
  | x :: r, b => by
    simp only [eraseL, outPs, textI_erase, outPs_erase r false]
theorem outS_er : ∀ (N : Nat) (b : Bool) (x : Item), sizeI x ≤ N → WS b x → outS (erase x) = outS x := by
  intro N
  induction N with
  | zero => intro b x h; have := sizeI_pos x; omega
  | succ N ih =>
    intro b x hN hw
    cases hw with
    | block a l hl =>
      simp only [sizeI] at hN
      have key : ∀ l : List Item, (∀ x ∈ l, WS true x) → sizeL l ≤ N → outSs (eraseL l) = outSs l := by
        intro l
        induction l with
        | nil => intro _ _; rfl
        | cons y r ihl =>
          intro h1 h2
          simp only [sizeL] at h2
          simp only [eraseL, outSs, ih true y (by omega) (h1 y (List.mem_cons_self ..)), ihl (fun z hz => h1 z (List.mem_cons_of_mem _ hz)) (by omega)]
      simp only [erase, outS, key l hl (by omega)]
    | declare t a x hx => simp only [erase, eraseL, outS, outX_erase hx]
    | assign t a x hx => simp only [erase, eraseL, outS, outX_erase hx]
    | store t a x y hx hy => simp only [erase, eraseL, outS, outX_erase hx, outX_erase hy]
    | if1 a x b hx hb =>
      simp only [sizeI, sizeL] at hN
      simp only [erase, eraseL, outS, outX_erase hx, ih _ b (by omega) hb]
    | if2 a x b c hx hb hc =>
      simp only [sizeI, sizeL] at hN
      simp only [erase, eraseL, outS, outX_erase hx, ih _ b (by omega) hb, ih _ c (by omega) hc]
    | for1 a x b hx hb =>
      simp only [sizeI, sizeL] at hN
      simp only [erase, eraseL, outS, outX_erase hx, ih _ b (by omega) hb]
    | ret k a x hk hx =>
      rcases hk with rfl | rfl | rfl <;> simp only [erase, eraseL, outS, outX_erase hx]
    | read t a => rfl
    | call t a u b l hl =>
      simp only [erase, eraseL, outS, textI, outA_erase l true hl]
theorem outS_erase {b : Bool} {x : Item} (h : WS b x) : outS (erase x) = outS x := outS_er _ b x (Nat.le_refl _) h
theorem eraseL_app (a b : List Item) : eraseL (a ++ b) = eraseL a ++ eraseL b := eraseL_append a b
theorem outD_erase {x : Item} (h : WD x) : outD (erase x) = outD x := by
  cases h with
  | array t n a => rfl
  | func t a l b hl hb =>
    simp only [erase, eraseL_append, eraseL, outD, List.dropLast_concat, List.getLast?_concat, outPs_erase, outS_erase hb]
theorem outP_erase {x : Item} (h : WP x) : outP (erase x) = outP x := by
  obtain ⟨k, t, n, a, l⟩ := x
  obtain ⟨_, _, _, hl⟩ := h
  have key : ∀ l : List Item, (∀ x ∈ l, WD x) → outDs (eraseL l) = outDs l := by
    intro l
    induction l with
    | nil => intro _; rfl
    | cons y r ih =>
      intro h
      simp only [eraseL, outDs, outD_erase (h y (List.mem_cons_self ..)), ih (fun z hz => h z (List.mem_cons_of_mem _ hz))]
  simp only [erase, outP, key l hl]
theorem outP_same {x y : Item} (h : WP x) (h' : WP y) (e : erase x = erase y) : outP x = outP y := by
  rw [← outP_erase h, e, outP_erase h']

/-- How many bytes a tree is printed as, where no name is long. -/
def ShortI (m : Nat) : List GN → Prop := fun G => ∀ g ∈ G, g.text.length ≤ m
mutual
def MaxT (m : Nat) : Item → Prop
  | .mk _ t _ _ ks => t.length ≤ m ∧ MaxTs m ks
def MaxTs (m : Nat) : List Item → Prop
  | [] => True
  | x :: r => MaxT m x ∧ MaxTs m r
end
mutual
theorem at_max {T : List GN} {m : Nat} (h : ShortI m T) : ∀ (x : Item) (i : Nat), AtI T i x → MaxT m x
  | .mk k t n a ks, i, ha => by
    obtain ⟨⟨p, hp⟩, hl⟩ := ha
    exact ⟨h _ (List.mem_of_getElem? hp), at_maxL h ks _ hl⟩
theorem at_maxL {T : List GN} {m : Nat} (h : ShortI m T) : ∀ (l : List Item) (i : Nat), AtL T i l → MaxTs m l
  | [], _, _ => trivial
  | x :: r, i, ha => ⟨at_max h x i ha.1, at_maxL h r _ ha.2⟩
end
theorem maxTs_mem {m : Nat} {l : List Item} (h : MaxTs m l) : ∀ x ∈ l, MaxT m x := by
  induction l with
  | nil => intro x hx; cases hx
  | cons y r ih =>
    intro x hx
    rcases List.mem_cons.1 hx with rfl | hx
    · exact h.1
    · exact ih h.2 x hx
theorem maxTs_of {m : Nat} {l : List Item} (h : ∀ x ∈ l, MaxT m x) : MaxTs m l := by
  induction l with
  | nil => trivial
  | cons y r ih => exact ⟨h y (by simp), ih (fun x hx => h x (by simp [hx]))⟩
theorem dd_len : ∀ (k v : Nat), v < 10 ^ (k + 1) → (Lib.decDigits v).length ≤ k + 1 := by
  intro k
  induction k with
  | zero =>
    intro v h
    rw [Lib.decDigits_one (by simpa using h)]; simp
  | succ k ih =>
    intro v h
    by_cases h9 : v < 10
    · rw [Lib.decDigits_one h9]; simp
    · rw [Lib.decDigits, dif_neg h9, List.length_append]
      have := ih (v / 10) (by rw [Nat.pow_succ] at h; omega)
      simp only [List.length_cons, List.length_nil]; omega
theorem itoa_len {n : Int} (h0 : 0 ≤ n) (h1 : n ≤ 2147483647) : (Lib.itoa n).length ≤ 10 := by
  obtain ⟨v, rfl⟩ := Int.eq_ofNat_of_zero_le h0
  have : Lib.itoa (v : Int) = Lib.decDigits v := by unfold Lib.itoa; rw [if_neg (by omega)]; simp
  rw [this]
  exact dd_len 9 v (by omega)
theorem outX_wt {m : Nat} : ∀ (N : Nat) (x : Item), sizeI x ≤ N → WX x → GoodI x → MaxT m x → ∀ of, wt (outX of x) ≤ (m + 30) * sizeI x := by
  intro N
  induction N with
  | zero => intro x h; have := sizeI_pos x; omega
  | succ N ih =>
    intro x hN hw hg hm of
    rcases WX_cases hw with ⟨n, a, rfl⟩ | ⟨t, a, rfl⟩ | ⟨t, a, y, rfl, hy⟩ | ⟨n, a, y, rfl, hn, hy⟩ | ⟨n, a, y, z, rfl, hn1, hn2, hy, hz⟩
    · have := itoa_len hg.2.1.1 hg.2.1.2
      simp only [sizeI, sizeL, outX, wt_nb, wt_nil]; omega
    · have := hm.1
      simp only [sizeI, sizeL, outX, wt_nm, wt_nil]; omega
    · simp only [sizeI, sizeL] at hN
      have h1 := ih y (by omega) hy hg.2.2.1 hm.2.1 1
      have := hm.1
      simp only [sizeI, sizeL, outX, wt_nm, wt_mk4, wt_append, wt_nil, List.length_cons, List.length_nil, Nat.mul_add]
      omega
    · simp only [sizeI, sizeL] at hN
      have h1 := ih y (by omega) hy hg.2.2.1 hm.2.1 4
      simp only [sizeI, sizeL, outX, wt_mk4, Nat.mul_add]
      split <;> simp only [List.length_cons, List.length_nil] <;> omega
    · simp only [sizeI, sizeL] at hN
      have h1 := ih y (by omega) hy hg.2.2.1 hm.2.1 (levelN ((n : Int)).toNat)
      have h2 := ih z (by omega) hz hg.2.2.2.1 hm.2.2.1 (levelN ((n : Int)).toNat + 1)
      have h3 : (markText ((n : Int)).toNat).length ≤ 2 := by
        have e : ((n : Int)).toNat = n := by omega
        rw [e]
        have : n = 1 ∨ n = 2 ∨ n = 3 ∨ n = 4 ∨ n = 5 ∨ n = 6 ∨ n = 7 ∨ n = 8 ∨ n = 9 ∨ n = 10 ∨ n = 11 ∨ n = 12 ∨ n = 13 ∨ n = 14 := by omega
        rcases this with rfl | rfl | rfl | rfl | rfl | rfl | rfl | rfl | rfl | rfl | rfl | rfl | rfl | rfl <;> decide
      simp only [sizeI, sizeL, outX, Nat.mul_add]
      split
      · simp only [wt_mk4, wt_append, wt_nil, List.length_cons, List.length_nil]; omega
      · simp only [wt_mk4, wt_append]; omega
theorem outX_wt' {m : Nat} {x : Item} (h : WX x) (hg : GoodI x) (hm : MaxT m x) (of : Nat) : wt (outX of x) ≤ (m + 30) * sizeI x := outX_wt _ x (Nat.le_refl _) h hg hm of
theorem outA_wt {m : Nat} : ∀ (l : List Item) (b : Bool), WXs l → GoodL l → MaxTs m l → wt (outA b l) ≤ (m + 32) * sizeL l
  | [], _, _, _, _ => by simp [sizeL, outA, wt]
  | x :: r, b, h, hg, hm => by
    have h1 := outX_wt' h.1 hg.1 hm.1 1
    have h2 := outA_wt r false h.2 hg.2 hm.2
    have h3 := sizeI_pos x
    have e : (m + 32) * sizeI x = (m + 30) * sizeI x + 2 * sizeI x := by rw [show m + 32 = (m + 30) + 2 by omega, Nat.add_mul]
    cases b
    · simp only [sizeL, outA, wt_append, wt_mk4, wt_nil, Nat.mul_add, Bool.false_eq_true, if_false, List.length_cons, List.length_nil]; omega
    · simp only [sizeL, outA, wt_append, wt_nil, Nat.mul_add, if_true]; omega
theorem outPs_wt {m : Nat} : ∀ (l : List Item) (b : Bool), (∀ x ∈ l, WN 4 x) → MaxTs m l → wt (outPs b l) ≤ (m + 32) * sizeL l
  | [], _, _, _ => by simp [sizeL, outPs, wt]
  | x :: r, b, h, hm => by
    have h2 := outPs_wt r false (fun z hz => h z (List.mem_cons_of_mem _ hz)) hm.2
    have h1 : sizeI x = 1 ∧ (textI x).length ≤ m := by
      obtain ⟨k, t, n, a, ks⟩ := x
      have := h _ (List.mem_cons_self ..)
      simp only [WN] at this
      obtain ⟨_, _, rfl⟩ := this
      exact ⟨rfl, hm.1.1⟩
    cases b
    · simp only [sizeL, outPs, wt_append, wt_nm, wt_mk4, wt_nil, Nat.mul_add, h1.1, Bool.false_eq_true, if_false, List.length_cons, List.length_nil]; omega
    · simp only [sizeL, outPs, wt_append, wt_nm, wt_nil, Nat.mul_add, h1.1, if_true]; omega
theorem up_wt {m w s : Nat} (h : w ≤ (m + 30) * s) : w ≤ (m + 40) * s := Nat.le_trans h (Nat.mul_le_mul_right _ (by omega))
theorem up_wt2 {m w s : Nat} (h : w ≤ (m + 32) * s) : w ≤ (m + 40) * s := Nat.le_trans h (Nat.mul_le_mul_right _ (by omega))
theorem outS_wt {m : Nat} : ∀ (N : Nat) (b : Bool) (x : Item), sizeI x ≤ N → WS b x → GoodI x → MaxT m x → wt (outS x) ≤ (m + 40) * sizeI x := by
  intro N
  induction N with
  | zero => intro b x h; have := sizeI_pos x; omega
  | succ N ih =>
    intro b x hN hw hg hm
    cases hw with
    | block a l hl =>
      simp only [sizeI] at hN
      have key : ∀ l : List Item, (∀ x ∈ l, WS true x) → GoodL l → MaxTs m l → sizeL l ≤ N → wt (outSs l) ≤ (m + 40) * sizeL l := by
        intro l
        induction l with
        | nil => intro _ _ _ _; simp [sizeL, outSs, wt]
        | cons y r ihl =>
          intro h1 hg hm h2
          simp only [sizeL] at h2
          have g1 := ih true y (by omega) (h1 y (List.mem_cons_self ..)) hg.1 hm.1
          have g2 := ihl (fun z hz => h1 z (List.mem_cons_of_mem _ hz)) hg.2 hm.2 (by omega)
          simp only [sizeL, outSs, wt_append, Nat.mul_add]; omega
      have := key l hl hg.2.2 hm.2 (by omega)
      simp only [sizeI, outS, wt_mk4, wt_append, wt_nil, Nat.mul_add, List.length_cons, List.length_nil]; omega
    | declare t a x hx =>
      have h1 := up_wt (outX_wt' hx hg.2.2.1 hm.2.1 1)
      have h2 := hm.1
      simp only [sizeI, sizeL, outS, wt_mk4, wt_wd, wt_nm, wt_append, wt_nil, Nat.mul_add, List.length_cons, List.length_nil]; omega
    | assign t a x hx =>
      have h1 := up_wt (outX_wt' hx hg.2.2.1 hm.2.1 1)
      have h2 := hm.1
      simp only [sizeI, sizeL, outS, wt_mk4, wt_nm, wt_append, wt_nil, Nat.mul_add, List.length_cons, List.length_nil]; omega
    | store t a x y hx hy =>
      have h1 := up_wt (outX_wt' hx hg.2.2.1 hm.2.1 1)
      have h3 := up_wt (outX_wt' hy hg.2.2.2.1 hm.2.2.1 1)
      have h2 := hm.1
      simp only [sizeI, sizeL, outS, wt_mk4, wt_nm, wt_append, wt_nil, Nat.mul_add, List.length_cons, List.length_nil]; omega
    | if1 a x b hx hb =>
      simp only [sizeI, sizeL] at hN
      have h1 := up_wt (outX_wt' hx hg.2.2.1 hm.2.1 1)
      have h2 := ih _ b (by omega) hb hg.2.2.2.1 hm.2.2.1
      simp only [sizeI, sizeL, outS, wt_wd, wt_append, Nat.mul_add, List.length_cons, List.length_nil]; omega
    | if2 a x b c hx hb hc =>
      simp only [sizeI, sizeL] at hN
      have h1 := up_wt (outX_wt' hx hg.2.2.1 hm.2.1 1)
      have h2 := ih _ b (by omega) hb hg.2.2.2.1 hm.2.2.1
      have h3 := ih _ c (by omega) hc hg.2.2.2.2.1 hm.2.2.2.1
      simp only [sizeI, sizeL, outS, wt_wd, wt_append, Nat.mul_add, List.length_cons, List.length_nil]; omega
    | for1 a x b hx hb =>
      simp only [sizeI, sizeL] at hN
      have h1 := up_wt (outX_wt' hx hg.2.2.1 hm.2.1 1)
      have h2 := ih _ b (by omega) hb hg.2.2.2.1 hm.2.2.1
      simp only [sizeI, sizeL, outS, wt_wd, wt_append, Nat.mul_add, List.length_cons, List.length_nil]; omega
    | ret k a x hk hx =>
      have h1 := up_wt (outX_wt' hx hg.2.2.1 hm.2.1 1)
      rcases hk with rfl | rfl | rfl <;> simp only [sizeI, sizeL, outS, wt_mk4, wt_wd, wt_append, wt_nil, Nat.mul_add, List.length_cons, List.length_nil] <;> omega
    | read t a =>
      have h2 := hm.1
      simp only [sizeI, sizeL, outS, wt_mk4, wt_wd, wt_nm, wt_nil, Nat.mul_add, List.length_cons, List.length_nil]; omega
    | call t a u b l hl =>
      have h1 := up_wt2 (outA_wt l true hl hg.2.2.2 hm.2.2)
      have h2 := hm.1
      have h3 := hm.2.1.1
      simp only [textI, sizeI, sizeL, outS, wt_mk4, wt_wd, wt_nm, wt_append, wt_nil, Nat.mul_add, List.length_cons, List.length_nil]; omega
theorem maxTs_split {m : Nat} {a b : List Item} (h : MaxTs m (a ++ b)) : MaxTs m a ∧ MaxTs m b := ⟨maxTs_of fun x hx => maxTs_mem h x (List.mem_append_left _ hx), maxTs_of fun x hx => maxTs_mem h x (List.mem_append_right _ hx)⟩
theorem outD_wt {m : Nat} {x : Item} (h : WD x) (hg : GoodI x) (hm : MaxT m x) : wt (outD x) ≤ (m + 40) * sizeI x := by
  cases h with
  | array t n a =>
    have h1 := itoa_len hg.2.1.1 hg.2.1.2
    have h2 := hm.1
    simp only [sizeI, sizeL, outD, wt_wd, wt_nm, wt_mk4, wt_nb, wt_nil, Nat.mul_add, List.length_cons, List.length_nil]; omega
  | func t a l b hl hb =>
    obtain ⟨m1, m2⟩ := maxTs_split hm.2
    have g2 := goodL_mem hg.2.2 b (by simp)
    have h1 := up_wt2 (outPs_wt l true hl m1)
    have h2 := outS_wt _ false b (Nat.le_refl _) hb g2 m2.1
    have h3 := hm.1
    simp only [sizeI, outD, sizeL_append, sizeL, wt_wd, wt_nm, wt_mk4, wt_append, List.dropLast_concat, List.getLast?_concat, Nat.mul_add, List.length_cons, List.length_nil]
    omega
theorem outP_wt {m : Nat} {x : Item} (h : WP x) (hg : GoodI x) (hm : MaxT m x) : wt (outP x) ≤ (m + 40) * sizeI x := by
  obtain ⟨k, t, n, a, l⟩ := x
  obtain ⟨_, _, _, hl⟩ := h
  have key : ∀ l : List Item, (∀ x ∈ l, WD x) → GoodL l → MaxTs m l → wt (outDs l) ≤ (m + 40) * sizeL l := by
    intro l
    induction l with
    | nil => intro _ _ _; simp [sizeL, outDs, wt]
    | cons y r ih =>
      intro h hg hm
      have g1 := outD_wt (h y (List.mem_cons_self ..)) hg.1 hm.1
      have g2 := ih (fun z hz => h z (List.mem_cons_of_mem _ hz)) hg.2 hm.2
      simp only [sizeL, outDs, wt_append, Nat.mul_add]; omega
  have := key l hl hg.2.2 hm.2
  simp only [sizeI, outP, Nat.mul_add]; omega
end Go.Proofs.YtkkeocnnecegbaaGreatDoor
