/- Joint text: JB. By an AI agent. -/
import Derived.Test.YtkkeocnnecegbaaGreatDoorQ00
set_option linter.all false
set_option maxRecDepth 100000
set_option maxHeartbeats 64000000
namespace Go.Proofs.YtkkeocnnecegbaaGreatDoor
abbrev Z:=List (Tok×Tok)
abbrev Z.l (z:Z):List Tok:=z.map (·.1)
abbrev Z.r (z:Z):List Tok:=z.map (·.2)
def ZS (S:Nat→Nat→Prop) (z:Z):Prop:=∀ p∈z,tk p.1=tk p.2∧S p.1.at' p.2.at'
mutual
inductive fI (S:Nat→Nat→Prop):Item→Item→Prop
 | mk (k:Nat) (t:List UInt8) (n:Int) (a b:Nat) (ks js:List Item):S a b→ic S ks js→fI S (.mk k t n a ks) (.mk k t n b js)
inductive ic (S:Nat→Nat→Prop):List Item→List Item→Prop
 | nil:ic S [] []
 | cons (x y:Item) (r q:List Item):fI S x y→ic S r q→ic S (x :: r) (y :: q)
end
theorem ic.append {S:Nat→Nat→Prop} {a b c d:List Item} (h1:ic S a b) (h2:ic S c d):ic S (a ++ c) (b ++ d):=by
 induction a generalizing b with
 | nil=>cases h1; exact h2
 | cons x r ih=>cases h1 with | cons _ y _ q hx hr=>exact .cons _ _ _ _ hx (ih hr)
theorem ic.one {S:Nat→Nat→Prop} {x y:Item} (h:fI S x y):ic S [x] [y]:=.cons _ _ _ _ h .nil
variable {S:Nat→Nat→Prop}
theorem ZS.tail {z:Z} (h:ZS S z):ZS S z.tail:=fun p hp=>h p (List.mem_of_mem_tail hp)
theorem Z.fO (z:Z):Z.l z.tail=(Z.l z).tail:=by cases z <;> rfl
theorem Z.kR (z:Z):Z.r z.tail=(Z.r z).tail:=by cases z <;> rfl
theorem ZS.kind {z:Z} (h:ZS S z):aj (Z.r z)=aj (Z.l z):=by
 cases z with
 | nil=>rfl
 | cons p r=>exact (fF (h p (by simp)).1).1.symm
theorem ZS.text {z:Z} (h:ZS S z):bT (Z.r z)=bT (Z.l z):=by
 cases z with
 | nil=>rfl
 | cons p r=>exact (fF (h p (by simp)).1).2.1.symm
theorem ZS.num {z:Z} (h:ZS S z):jR (Z.r z)=jR (Z.l z):=by
 cases z with
 | nil=>rfl
 | cons p r=>exact (fF (h p (by simp)).1).2.2.symm
theorem ZS.at' {z:Z} (h:ZS S z) (he:ah (Z.l z)):S (nowAt (Z.l z)) (nowAt (Z.r z)):=by
 cases z with
 | nil=>cases he
 | cons p r=>exact (h p (by simp)).2
theorem ZS.isT {z:Z} (h:ZS S z) (x:List UInt8):isT x (Z.r z)=isT x (Z.l z):=by
 unfold Go.Proofs.YtkkeocnnecegbaaGreatDoor.isT; rw [h.kind,h.text]
theorem ZS.mark {z:Z} (h:ZS S z) (of:Nat):bQ of (Z.r z)=bQ of (Z.l z):=by
 have:∀ (l:List (List UInt8)) (n:Nat),markFrom of (Z.r z) n l=markFrom of (Z.l z) n l:=by
  intro l
  induction l with
  | nil=>intro n; rfl
  | cons m r ih=>intro n; unfold markFrom; rw [h.isT,ih]
 exact this _ _
theorem ZS.word {z:Z} (h:ZS S z):aG (Z.r z)=aG (Z.l z):=by
 unfold aG; rw [h.kind,h.text]
inductive sW (S:Nat→Nat→Prop) (a b:Except aY (List Tok)):Prop
 | err (p:Nat) (e:Int) (q:Nat):a=.error (p,e)→b=.error (q,e)→S p q→sW S a b
 | ok (z:Z):a=.ok (Z.l z)→b=.ok (Z.r z)→ZS S z→ah (Z.l z)→sW S a b
inductive fJ {α:Type} (S:Nat→Nat→Prop) (A:α→α→Prop) (a b:Except aY (α×List Tok)):Prop
 | out:a=.error aI→fJ S A a b
 | err (p:Nat) (e:Int) (q:Nat):a=.error (p,e)→b=.error (q,e)→S p q→fJ S A a b
 | ok (x y:α) (z:Z):a=.ok (x,Z.l z)→b=.ok (y,Z.r z)→A x y→ZS S z→ah (Z.l z)→fJ S A a b
theorem bU {z:Z} (h:ZS S z) (he:ah (Z.l z)) (x:List UInt8):sW S (af x (Z.l z)) (af x (Z.r z)):=by
 unfold af
 rw [h.isT]
 by_cases hi:isT x (Z.l z)=true
 ·rw [if_pos hi,if_pos hi]
  exact .ok z.tail (by rw [Z.fO]) (by rw [Z.kR]) h.tail (by rw [Z.fO]; exact (he.tail (gJ hi)).1)
 ·rw [if_neg hi,if_neg hi]
  exact .err _ _ _ rfl rfl (h.at' he)
theorem l9 {z:Z} (h:ZS S z) (he:ah (Z.l z)) (x:List UInt8) (d:Nat):sW S (aR x d (Z.l z)) (aR x d (Z.r z)):=by
 unfold aR
 rw [h.isT]
 split
 ·exact .err _ _ _ rfl rfl (h.at' he)
 ·exact bU h he x
theorem iQ {z:Z} (h:ZS S z) (he:ah (Z.l z)):fJ S Eq (aM (Z.l z)) (aM (Z.r z)):=by
 unfold aM
 rw [h.kind]
 by_cases hi:aj (Z.l z)=1
 ·rw [if_pos hi,if_pos hi]
  exact .ok _ _ z.tail (by rw [Z.fO]) (by rw [Z.kR]) h.text.symm h.tail (by rw [Z.fO]; exact (he.tail (by omega)).1)
 ·rw [if_neg hi,if_neg hi]
  exact .err _ _ _ rfl rfl (h.at' he)
theorem simX:∀ f:Nat,
  (∀ g of d (z:Z),f≤g→ZS S z→ah (Z.l z)→fJ S (fI S) (binS f of d (Z.l z)) (binS g of d (Z.r z))) ∧
  (∀ g of d a b x y (z:Z),f≤g→ZS S z→ah (Z.l z)→S a b→fI S x y→fJ S (fI S) (loopS f of d a x (Z.l z)) (loopS g of d b y (Z.r z))) ∧
  (∀ g d (z:Z),f≤g→ZS S z→ah (Z.l z)→fJ S (fI S) (unS f d (Z.l z)) (unS g d (Z.r z))) ∧
  (∀ g d (z:Z),f≤g→ZS S z→ah (Z.l z)→fJ S (fI S) (cB f d (Z.l z)) (cB g d (Z.r z)))
 | 0=>⟨fun _ _ _ _ _ _ _=>.out (by unfold binS; rfl),fun _ _ _ _ _ _ _ _ _ _ _ _ _=>.out (by unfold loopS; rfl),fun _ _ _ _ _ _=>.out (by unfold unS; rfl),fun _ _ _ _ _ _=>.out (by unfold cB; rfl)⟩
 | f+1=>by
  obtain ⟨hb,hl,hu,hf⟩:=simX f
  refine⟨?_,?_,?_,?_⟩
  ·intro g of d z hg h he
   obtain ⟨g,rfl⟩:∃ g',g=g'+1:=⟨g - 1,by omega⟩
   unfold binS
   split
   ·exact hu g d z (by omega) h he
   ·rcases hb g (of+1) d z (by omega) h he with e1 | ⟨p,e,q,e1,e2,e3⟩ | ⟨x,y,z1,e1,e2,e3,e4,e5⟩
    ·exact .out (by rw [e1])
    ·exact .err p e q (by rw [e1]) (by rw [e2]) e3
    ·simp only [e1,e2]
     exact hl g of d _ _ _ _ z1 (by omega) e4 e5 (h.at' he) e3
  ·intro g of d a b x y z hg h he hab hxy
   obtain ⟨g,rfl⟩:∃ g',g=g'+1:=⟨g - 1,by omega⟩
   unfold loopS
   rw [h.mark]
   by_cases hm:bQ of (Z.l z)=0
   ·rw [if_pos hm,if_pos hm]
    exact .ok _ _ z rfl rfl hxy h he
   ·rw [if_neg hm,if_neg hm]
    have ht:=(jm he hm).1
    rw [← Z.fO] at ht
    rw [← Z.fO,← Z.kR]
    rcases hb g (of+1) d z.tail (by omega) h.tail ht with e1 | ⟨p,e,q,e1,e2,e3⟩ | ⟨x1,y1,z1,e1,e2,e3,e4,e5⟩
    ·exact .out (by rw [e1])
    ·exact .err p e q (by rw [e1]) (by rw [e2]) e3
    ·simp only [e1,e2]
     exact hl g of d _ _ _ _ z1 (by omega) e4 e5 hab (.mk _ _ _ _ _ _ _ hab (.cons _ _ _ _ hxy (.one e3)))
  ·intro g d z hg h he
   obtain ⟨g,rfl⟩:∃ g',g=g'+1:=⟨g - 1,by omega⟩
   have un:∀ (m:List UInt8) (n:Int),fJ S (fI S) (match aR m d (Z.l z) with
     | .error e=>.error e
     | .ok ts1=>match unS f (d+1) ts1 with
      | .error e=>.error e
      | .ok (x,ts2)=>.ok (Item.mk 20 [] n (nowAt (Z.l z)) [x],ts2)) (match aR m d (Z.r z) with
     | .error e=>.error e
     | .ok ts1=>match unS g (d+1) ts1 with
      | .error e=>.error e
      | .ok (x,ts2)=>.ok (Item.mk 20 [] n (nowAt (Z.r z)) [x],ts2)):=by
    intro m n
    rcases l9 h he m d with ⟨p,e,q,e1,e2,e3⟩ | ⟨z1,e1,e2,e4,e5⟩
    ·exact .err p e q (by rw [e1]) (by rw [e2]) e3
    ·simp only [e1,e2]
     rcases hu g (d+1) z1 (by omega) e4 e5 with e1 | ⟨p,e,q,e1,e2,e3⟩ | ⟨x1,y1,z1,e1,e2,e3,e4,e5⟩
     ·exact .out (by rw [e1])
     ·exact .err p e q (by rw [e1]) (by rw [e2]) e3
     ·simp only [e1,e2]
      exact .ok _ _ z1 rfl rfl (.mk _ _ _ _ _ _ _ (h.at' he) (.one e3)) e4 e5
   unfold unS
   rw [h.isT,h.isT]
   split
   ·exact un [45] 1
   ·split
    ·exact un [33] 2
    ·exact hf g d z (by omega) h he
  ·intro g d z hg h he
   obtain ⟨g,rfl⟩:∃ g',g=g'+1:=⟨g - 1,by omega⟩
   unfold cB
   rw [h.kind]
   by_cases k3:aj (Z.l z)=3
   ·rw [if_pos k3,if_pos k3]
    rw [h.num]
    exact .ok _ _ z.tail (by rw [Z.fO]) (by rw [Z.kR]) (.mk _ _ _ _ _ _ _ (h.at' he) .nil) h.tail (by rw [Z.fO]; exact (he.tail (by omega)).1)
   ·rw [if_neg k3,if_neg k3]
    by_cases k1:aj (Z.l z)=1
    ·rw [if_pos k1,if_pos k1]
     have ht:=(he.tail (show aj (Z.l z)≠5 by omega)).1
     rw [← Z.fO] at ht
     rw [← Z.fO,← Z.kR,h.tail.isT,h.text]
     split
     ·rcases l9 h.tail ht [91] d with ⟨p,e,q,e1,e2,e3⟩ | ⟨z1,e1,e2,e4,e5⟩
      ·exact .err p e q (by rw [e1]) (by rw [e2]) e3
      simp only [e1,e2]
      rcases hb g 1 (d+1) z1 (by omega) e4 e5 with e1 | ⟨p,e,q,e1,e2,e3⟩ | ⟨x1,y1,z1,e1,e2,e3,e4,e5⟩
      ·exact .out (by rw [e1])
      ·exact .err p e q (by rw [e1]) (by rw [e2]) e3
      simp only [e1,e2]
      rcases bU e4 e5 [93] with ⟨p,e,q,e1,e2,e3⟩ | ⟨z2,e1,e2,e6,e7⟩
      ·exact .err p e q (by rw [e1]) (by rw [e2]) e3
      simp only [e1,e2]
      exact .ok _ _ z2 rfl rfl (.mk _ _ _ _ _ _ _ (h.at' he) (.one e3)) e6 e7
     ·exact .ok _ _ z.tail rfl rfl (.mk _ _ _ _ _ _ _ (h.at' he) .nil) h.tail ht
    ·rw [if_neg k1,if_neg k1]
     rcases l9 h he [40] d with ⟨p,e,q,e1,e2,e3⟩ | ⟨z1,e1,e2,e4,e5⟩
     ·exact .err p e q (by rw [e1]) (by rw [e2]) e3
     simp only [e1,e2]
     rcases hb g 1 (d+1) z1 (by omega) e4 e5 with e1 | ⟨p,e,q,e1,e2,e3⟩ | ⟨x1,y1,z1,e1,e2,e3,e4,e5⟩
     ·exact .out (by rw [e1])
     ·exact .err p e q (by rw [e1]) (by rw [e2]) e3
     simp only [e1,e2]
     rcases bU e4 e5 [41] with ⟨p,e,q,e1,e2,e3⟩ | ⟨z2,e1,e2,e6,e7⟩
     ·exact .err p e q (by rw [e1]) (by rw [e2]) e3
     simp only [e1,e2]
     exact .ok _ _ z2 rfl rfl (by assumption) e6 e7
theorem nG {f g d:Nat} {z:Z} (hg:f≤g) (h:ZS S z) (he:ah (Z.l z)):fJ S (fI S) (binS f 1 d (Z.l z)) (binS g 1 d (Z.r z)):=(simX f).1 g 1 d z hg h he
theorem ym:∀ (f g d:Nat) (b:Bool) (acc bcc:List Item) (z:Z),f≤g→ZS S z→ah (Z.l z)→ic S acc bcc→fJ S (ic S) (argsS f d b acc (Z.l z)) (argsS g d b bcc (Z.r z))
 | 0,_,_,_,_,_,_,_,_,_,_=>.out (by unfold argsS; rfl)
 | f+1,g,d,b,acc,bcc,z,hg,h,he,ha=>by
  obtain ⟨g,rfl⟩:∃ g',g=g'+1:=⟨g - 1,by omega⟩
  unfold argsS
  rw [h.isT]
  by_cases hi:isT [41] (Z.l z)=true
  ·rw [if_pos hi,if_pos hi]
   exact .ok _ _ z rfl rfl ha h he
  rw [if_neg hi,if_neg hi]
  have c:sW S (if b=true then .ok (Z.l z) else af [44] (Z.l z)) (if b=true then .ok (Z.r z) else af [44] (Z.r z)):=by
   cases b
   ·exact bU h he _
   ·exact .ok z rfl rfl h he
  rcases c with ⟨p,e,q,e1,e2,e3⟩ | ⟨z1,e1,e2,a1,a2⟩
  ·exact .err p e q (by simp only [e1]) (by simp only [e2]) e3
  simp only [e1,e2]
  rcases nG (f:=f) (g:=g) (d:=d) (by omega) a1 a2 with e1 | ⟨p,e,q,e1,e2,e3⟩ | ⟨x,y,z2,e1,e2,b1,b2,b3⟩
  ·exact .out (by simp only [e1])
  ·exact .err p e q (by simp only [e1]) (by simp only [e2]) e3
  simp only [e1,e2]
  exact ym f g d false _ _ z2 (by omega) b2 b3 (ha.append (.one b1))
theorem wJ:∀ (f g:Nat) (b:Bool) (acc bcc:List Item) (z:Z),f≤g→ZS S z→ah (Z.l z)→ic S acc bcc→fJ S (ic S) (parsS f b acc (Z.l z)) (parsS g b bcc (Z.r z))
 | 0,_,_,_,_,_,_,_,_,_=>.out (by unfold parsS; rfl)
 | f+1,g,b,acc,bcc,z,hg,h,he,ha=>by
  obtain ⟨g,rfl⟩:∃ g',g=g'+1:=⟨g - 1,by omega⟩
  unfold parsS
  rw [h.isT]
  by_cases hi:isT [41] (Z.l z)=true
  ·rw [if_pos hi,if_pos hi]
   exact .ok _ _ z rfl rfl ha h he
  rw [if_neg hi,if_neg hi]
  have c:sW S (if b=true then .ok (Z.l z) else af [44] (Z.l z)) (if b=true then .ok (Z.r z) else af [44] (Z.r z)):=by
   cases b
   ·exact bU h he _
   ·exact .ok z rfl rfl h he
  rcases c with ⟨p,e,q,e1,e2,e3⟩ | ⟨z1,e1,e2,a1,a2⟩
  ·exact .err p e q (by simp only [e1]) (by simp only [e2]) e3
  simp only [e1,e2]
  rcases iQ a1 a2 with e1 | ⟨p,e,q,e1,e2,e3⟩ | ⟨x,y,z2,e1,e2,b1,b2,b3⟩
  ·exact .out (by simp only [e1])
  ·exact .err p e q (by simp only [e1]) (by simp only [e2]) e3
  simp only [e1,e2]
  subst b1
  exact wJ f g false _ _ z2 (by omega) b2 b3 (ha.append (.one (.mk _ _ _ _ _ _ _ (a1.at' a2) .nil)))
theorem oq {f g d:Nat} {z:Z} (hg:f≤g) (h:ZS S z) (he:ah (Z.l z)):fJ S (fI S) (bA f d (Z.l z)) (bA g d (Z.r z)):=by
 unfold bA
 rcases nG (f:=f) (g:=g) (d:=d) hg h he with e1 | ⟨p,e,q,e1,e2,e3⟩ | ⟨x,y,z1,e1,e2,a1,a2,a3⟩
 ·exact .out (by simp only [e1])
 ·exact .err p e q (by simp only [e1]) (by simp only [e2]) e3
 simp only [e1,e2]
 rcases bU a2 a3 [59] with ⟨p,e,q,e1,e2,e3⟩ | ⟨z2,e1,e2,b1,b2⟩
 ·exact .err p e q (by simp only [e1]) (by simp only [e2]) e3
 simp only [e1,e2]
 exact .ok _ _ z2 rfl rfl a1 b1 b2
theorem yF {f g d a b:Nat} {z:Z} (hg:f≤g) (h:ZS S z) (he:ah (Z.l z)) (hab:S a b):fJ S (fI S) (bS f d a (Z.l z)) (bS g d b (Z.r z)):=by
 unfold bS
 rcases iQ h he with e1 | ⟨p,e,q,e1,e2,e3⟩ | ⟨t,u,z1,e1,e2,a1,a2,a3⟩
 ·exact .out (by simp only [e1])
 ·exact .err p e q (by simp only [e1]) (by simp only [e2]) e3
 simp only [e1,e2]
 subst a1
 rcases bU a2 a3 [61] with ⟨p,e,q,e1,e2,e3⟩ | ⟨z2,e1,e2,b1,b2⟩
 ·exact .err p e q (by simp only [e1]) (by simp only [e2]) e3
 simp only [e1,e2]
 rcases oq (f:=f) (g:=g) (d:=d) hg b1 b2 with e1 | ⟨p,e,q,e1,e2,e3⟩ | ⟨x,y,z3,e1,e2,c1,c2,c3⟩
 ·exact .out (by simp only [e1])
 ·exact .err p e q (by simp only [e1]) (by simp only [e2]) e3
 simp only [e1,e2]
 exact .ok _ _ z3 rfl rfl (.mk _ _ _ _ _ _ _ hab (.one c1)) c2 c3
theorem Fw {a b:Nat} {z:Z} (h:ZS S z) (he:ah (Z.l z)) (hab:S a b):fJ S (fI S) (fC a (Z.l z)) (fC b (Z.r z)):=by
 unfold fC
 rcases iQ h he with e1 | ⟨p,e,q,e1,e2,e3⟩ | ⟨t,u,z1,e1,e2,a1,a2,a3⟩
 ·exact .out (by simp only [e1])
 ·exact .err p e q (by simp only [e1]) (by simp only [e2]) e3
 simp only [e1,e2]
 subst a1
 rcases bU a2 a3 [59] with ⟨p,e,q,e1,e2,e3⟩ | ⟨z2,e1,e2,b1,b2⟩
 ·exact .err p e q (by simp only [e1]) (by simp only [e2]) e3
 simp only [e1,e2]
 exact .ok _ _ z2 rfl rfl (.mk _ _ _ _ _ _ _ hab .nil) b1 b2
theorem Fp {f g d a b:Nat} {z:Z} (hg:f≤g) (h:ZS S z) (he:ah (Z.l z)) (hab:S a b):fJ S (fI S) (callS f d a (Z.l z)) (callS g d b (Z.r z)):=by
 unfold callS
 rcases iQ h he with e1 | ⟨p,e,q,e1,e2,e3⟩ | ⟨t,u,z1,e1,e2,a1,a2,a3⟩
 ·exact .out (by simp only [e1])
 ·exact .err p e q (by simp only [e1]) (by simp only [e2]) e3
 simp only [e1,e2]
 subst a1
 rcases bU a2 a3 [61] with ⟨p,e,q,e1,e2,e3⟩ | ⟨z2,e1,e2,b1,b2⟩
 ·exact .err p e q (by simp only [e1]) (by simp only [e2]) e3
 simp only [e1,e2]
 rcases iQ b1 b2 with e1 | ⟨p,e,q,e1,e2,e3⟩ | ⟨v,w,z3,e1,e2,c1,c2,c3⟩
 ·exact .out (by simp only [e1])
 ·exact .err p e q (by simp only [e1]) (by simp only [e2]) e3
 simp only [e1,e2]
 subst c1
 rcases bU c2 c3 [40] with ⟨p,e,q,e1,e2,e3⟩ | ⟨z4,e1,e2,d1,d2⟩
 ·exact .err p e q (by simp only [e1]) (by simp only [e2]) e3
 simp only [e1,e2]
 rcases ym f g d true [] [] z4 hg d1 d2 .nil with e1 | ⟨p,e,q,e1,e2,e3⟩ | ⟨l,m,z5,e1,e2,f1,f2,f3⟩
 ·exact .out (by simp only [e1])
 ·exact .err p e q (by simp only [e1]) (by simp only [e2]) e3
 simp only [e1,e2]
 rcases bU f2 f3 [41] with ⟨p,e,q,e1,e2,e3⟩ | ⟨z6,e1,e2,g1,g2⟩
 ·exact .err p e q (by simp only [e1]) (by simp only [e2]) e3
 simp only [e1,e2]
 rcases bU g1 g2 [59] with ⟨p,e,q,e1,e2,e3⟩ | ⟨z7,e1,e2,h1,h2⟩
 ·exact .err p e q (by simp only [e1]) (by simp only [e2]) e3
 simp only [e1,e2]
 exact .ok _ _ z7 rfl rfl (.mk _ _ _ _ _ _ _ hab (.cons _ _ _ _ (.mk _ _ _ _ _ _ _ (b1.at' b2) .nil) f1)) h1 h2
theorem Bd {f g d:Nat} {z:Z} (hg:f≤g) (h:ZS S z) (he:ah (Z.l z)):fJ S (fI S) (bH f d (Z.l z)) (bH g d (Z.r z)):=by
 unfold bH
 rcases iQ h he with e1 | ⟨p,e,q,e1,e2,e3⟩ | ⟨t,u,z1,e1,e2,a1,a2,a3⟩
 ·exact .out (by simp only [e1])
 ·exact .err p e q (by simp only [e1]) (by simp only [e2]) e3
 simp only [e1,e2]
 subst a1
 rw [a2.isT]
 split
 ·skip
  rcases l9 a2 a3 [91] d with ⟨p,e,q,e1,e2,e3⟩ | ⟨z2,e1,e2,b1,b2⟩
  ·exact .err p e q (by simp only [e1]) (by simp only [e2]) e3
  simp only [e1,e2]
  rcases nG (f:=f) (g:=g) (d:=d+1) hg b1 b2 with e1 | ⟨p,e,q,e1,e2,e3⟩ | ⟨x,y,z3,e1,e2,c1,c2,c3⟩
  ·exact .out (by simp only [e1])
  ·exact .err p e q (by simp only [e1]) (by simp only [e2]) e3
  simp only [e1,e2]
  rcases bU c2 c3 [93] with ⟨p,e,q,e1,e2,e3⟩ | ⟨z4,e1,e2,d1,d2⟩
  ·exact .err p e q (by simp only [e1]) (by simp only [e2]) e3
  simp only [e1,e2]
  rcases bU d1 d2 [61] with ⟨p,e,q,e1,e2,e3⟩ | ⟨z5,e1,e2,f1,f2⟩
  ·exact .err p e q (by simp only [e1]) (by simp only [e2]) e3
  simp only [e1,e2]
  rcases oq (f:=f) (g:=g) (d:=d) hg f1 f2 with e1 | ⟨p,e,q,e1,e2,e3⟩ | ⟨v,w,z6,e1,e2,g1,g2,g3⟩
  ·exact .out (by simp only [e1])
  ·exact .err p e q (by simp only [e1]) (by simp only [e2]) e3
  simp only [e1,e2]
  exact .ok _ _ z6 rfl rfl (.mk _ _ _ _ _ _ _ (h.at' he) (.cons _ _ _ _ c1 (.one g1))) g2 g3
 ·skip
  rcases bU a2 a3 [61] with ⟨p,e,q,e1,e2,e3⟩ | ⟨z5,e1,e2,f1,f2⟩
  ·exact .err p e q (by simp only [e1]) (by simp only [e2]) e3
  simp only [e1,e2]
  rcases oq (f:=f) (g:=g) (d:=d) hg f1 f2 with e1 | ⟨p,e,q,e1,e2,e3⟩ | ⟨v,w,z6,e1,e2,g1,g2,g3⟩
  ·exact .out (by simp only [e1])
  ·exact .err p e q (by simp only [e1]) (by simp only [e2]) e3
  simp only [e1,e2]
  exact .ok _ _ z6 rfl rfl (.mk _ _ _ _ _ _ _ (h.at' he) (.one g1)) g2 g3
theorem Jz:∀ f:Nat,
  (∀ g d (z:Z),f≤g→ZS S z→ah (Z.l z)→fJ S (fI S) (aH f d (Z.l z)) (aH g d (Z.r z))) ∧
  (∀ g d acc bcc (z:Z),f≤g→ZS S z→ah (Z.l z)→ic S acc bcc→fJ S (ic S) (stmtsS f d acc (Z.l z)) (stmtsS g d bcc (Z.r z))) ∧
  (∀ g d a b (z:Z),f≤g→ZS S z→ah (Z.l z)→S a b→fJ S (fI S) (bI f d a (Z.l z)) (bI g d b (Z.r z))) ∧
  (∀ g d a b (z:Z),f≤g→ZS S z→ah (Z.l z)→S a b→fJ S (fI S) (fw f d a (Z.l z)) (fw g d b (Z.r z))) ∧
  (∀ g d (z:Z),f≤g→ZS S z→ah (Z.l z)→fJ S (fI S) (aZ f d (Z.l z)) (aZ g d (Z.r z)))
 | 0=>⟨fun _ _ _ _ _ _=>.out (by unfold aH; rfl),fun _ _ _ _ _ _ _ _ _=>.out (by unfold stmtsS; rfl),fun _ _ _ _ _ _ _ _ _=>.out (by unfold bI; rfl),fun _ _ _ _ _ _ _ _ _=>.out (by unfold fw; rfl),fun _ _ _ _ _ _=>.out (by unfold aZ; rfl)⟩
 | f+1=>by
  obtain ⟨hb,hl,hc,hf,hs⟩:=Jz f
  refine⟨?_,?_,?_,?_,?_⟩
  ·intro g d z hg h he
   obtain ⟨g,rfl⟩:∃ g',g=g'+1:=⟨g - 1,by omega⟩
   unfold aH
   rcases l9 h he [123] d with ⟨p,e,q,e1,e2,e3⟩ | ⟨z1,e1,e2,a1,a2⟩
   ·exact .err p e q (by simp only [e1]) (by simp only [e2]) e3
   simp only [e1,e2]
   rcases hl g (d+1) [] [] z1 (by omega) a1 a2 .nil with e1 | ⟨p,e,q,e1,e2,e3⟩ | ⟨l,m,z2,e1,e2,b1,b2,b3⟩
   ·exact .out (by simp only [e1])
   ·exact .err p e q (by simp only [e1]) (by simp only [e2]) e3
   simp only [e1,e2]
   rcases bU b2 b3 [125] with ⟨p,e,q,e1,e2,e3⟩ | ⟨z3,e1,e2,c1,c2⟩
   ·exact .err p e q (by simp only [e1]) (by simp only [e2]) e3
   simp only [e1,e2]
   exact .ok _ _ z3 rfl rfl (.mk _ _ _ _ _ _ _ (h.at' he) b1) c1 c2
  ·intro g d acc bcc z hg h he ha
   obtain ⟨g,rfl⟩:∃ g',g=g'+1:=⟨g - 1,by omega⟩
   unfold stmtsS
   rw [h.isT]
   by_cases hi:isT [125] (Z.l z)=true
   ·rw [if_pos hi,if_pos hi]
    exact .ok _ _ z rfl rfl ha h he
   rw [if_neg hi,if_neg hi]
   rcases hs g d z (by omega) h he with e1 | ⟨p,e,q,e1,e2,e3⟩ | ⟨x,y,z1,e1,e2,a1,a2,a3⟩
   ·exact .out (by simp only [e1])
   ·exact .err p e q (by simp only [e1]) (by simp only [e2]) e3
   simp only [e1,e2]
   exact hl g d _ _ z1 (by omega) a2 a3 (ha.append (.one a1))
  ·intro g d a b z hg h he hab
   obtain ⟨g,rfl⟩:∃ g',g=g'+1:=⟨g - 1,by omega⟩
   unfold bI
   rcases nG (f:=f) (g:=g) (d:=d) (by omega) h he with e1 | ⟨p,e,q,e1,e2,e3⟩ | ⟨x,y,z1,e1,e2,a1,a2,a3⟩
   ·exact .out (by simp only [e1])
   ·exact .err p e q (by simp only [e1]) (by simp only [e2]) e3
   simp only [e1,e2]
   rcases hb g d z1 (by omega) a2 a3 with e1 | ⟨p,e,q,e1,e2,e3⟩ | ⟨v,w,z2,e1,e2,b1,b2,b3⟩
   ·exact .out (by simp only [e1])
   ·exact .err p e q (by simp only [e1]) (by simp only [e2]) e3
   simp only [e1,e2]
   rw [b2.isT]
   by_cases hi:isT [101,108,115,101] (Z.l z2)=true
   ·rw [if_pos hi,if_pos hi]
    have ht:=(b3.tail (gJ hi)).1
    rw [← Z.fO] at ht
    rw [← Z.fO,← Z.kR]
    rcases hb g d z2.tail (by omega) b2.tail ht with e1 | ⟨p,e,q,e1,e2,e3⟩ | ⟨m,n,z3,e1,e2,c1,c2,c3⟩
    ·exact .out (by simp only [e1])
    ·exact .err p e q (by simp only [e1]) (by simp only [e2]) e3
    simp only [e1,e2]
    exact .ok _ _ z3 rfl rfl (.mk _ _ _ _ _ _ _ hab (.cons _ _ _ _ a1 (.cons _ _ _ _ b1 (.one c1)))) c2 c3
   ·rw [if_neg hi,if_neg hi]
    exact .ok _ _ z2 rfl rfl (.mk _ _ _ _ _ _ _ hab (.cons _ _ _ _ a1 (.one b1))) b2 b3
  ·intro g d a b z hg h he hab
   obtain ⟨g,rfl⟩:∃ g',g=g'+1:=⟨g - 1,by omega⟩
   unfold fw
   rcases nG (f:=f) (g:=g) (d:=d) (by omega) h he with e1 | ⟨p,e,q,e1,e2,e3⟩ | ⟨x,y,z1,e1,e2,a1,a2,a3⟩
   ·exact .out (by simp only [e1])
   ·exact .err p e q (by simp only [e1]) (by simp only [e2]) e3
   simp only [e1,e2]
   rcases hb g d z1 (by omega) a2 a3 with e1 | ⟨p,e,q,e1,e2,e3⟩ | ⟨v,w,z2,e1,e2,b1,b2,b3⟩
   ·exact .out (by simp only [e1])
   ·exact .err p e q (by simp only [e1]) (by simp only [e2]) e3
   simp only [e1,e2]
   exact .ok _ _ z2 rfl rfl (.mk _ _ _ _ _ _ _ hab (.cons _ _ _ _ a1 (.one b1))) b2 b3
  ·intro g d z hg h he
   obtain ⟨g,rfl⟩:∃ g',g=g'+1:=⟨g - 1,by omega⟩
   unfold aZ
   rw [h.word]
   by_cases h0:aG (Z.l z)=0
   ·rw [if_pos h0,if_pos h0]
    exact Bd (by omega) h he
   rw [if_neg h0,if_neg h0]
   have ht:=(iI he h0).1
   rw [← Z.fO] at ht
   rw [← Z.fO,← Z.kR]
   have hat:=h.at' he
   split
   ·exact yF (by omega) h.tail ht hat
   split
   ·exact hc g d _ _ z.tail (by omega) h.tail ht hat
   split
   ·exact hf g d _ _ z.tail (by omega) h.tail ht hat
   split
   ·exact Fw h.tail ht hat
   split
   ·exact Fp (by omega) h.tail ht hat
   rcases oq (f:=f) (g:=g) (d:=d) (by omega) h.tail ht with e1 | ⟨p,e,q,e1,e2,e3⟩ | ⟨x,y,z1,e1,e2,a1,a2,a3⟩
   ·exact .out (by simp only [e1])
   ·exact .err p e q (by simp only [e1]) (by simp only [e2]) e3
   simp only [e1,e2]
   exact .ok _ _ z1 rfl rfl (.mk _ _ _ _ _ _ _ hat (.one a1)) a2 a3
theorem Ep {z:Z} (h:ZS S z) (he:ah (Z.l z)):fJ S (fI S) (dO (Z.l z)) (dO (Z.r z)):=by
 unfold dO
 rcases bU h he [118,97,114] with ⟨p,e,q,e1,e2,e3⟩ | ⟨z1,e1,e2,a1,a2⟩
 ·exact .err p e q (by simp only [e1]) (by simp only [e2]) e3
 simp only [e1,e2]
 rcases iQ a1 a2 with e1 | ⟨p,e,q,e1,e2,e3⟩ | ⟨t,u,z2,e1,e2,b1,b2,b3⟩
 ·exact .out (by simp only [e1])
 ·exact .err p e q (by simp only [e1]) (by simp only [e2]) e3
 simp only [e1,e2]
 subst b1
 rcases bU b2 b3 [91] with ⟨p,e,q,e1,e2,e3⟩ | ⟨z3,e1,e2,c1,c2⟩
 ·exact .err p e q (by simp only [e1]) (by simp only [e2]) e3
 simp only [e1,e2]
 rw [c1.kind,c1.num]
 by_cases hk:aj (Z.l z3)=3
 ·rw [if_pos hk,if_pos hk]
  have ht:=(c2.tail (show aj (Z.l z3)≠5 by omega)).1
  rw [← Z.fO] at ht
  rw [← Z.fO,← Z.kR]
  rcases bU c1.tail ht [93] with ⟨p,e,q,e1,e2,e3⟩ | ⟨z4,e1,e2,d1,d2⟩
  ·exact .err p e q (by simp only [e1]) (by simp only [e2]) e3
  simp only [e1,e2]
  rcases bU d1 d2 [59] with ⟨p,e,q,e1,e2,e3⟩ | ⟨z5,e1,e2,f1,f2⟩
  ·exact .err p e q (by simp only [e1]) (by simp only [e2]) e3
  simp only [e1,e2]
  exact .ok _ _ z5 rfl rfl (.mk _ _ _ _ _ _ _ (h.at' he) .nil) f1 f2
 ·rw [if_neg hk,if_neg hk]
  exact .err _ _ _ rfl rfl (c1.at' c2)
theorem Hq {f g:Nat} {z:Z} (hg:f≤g) (h:ZS S z) (he:ah (Z.l z)):fJ S (fI S) (dU f (Z.l z)) (dU g (Z.r z)):=by
 unfold dU
 rcases bU h he [102,117,110,99] with ⟨p,e,q,e1,e2,e3⟩ | ⟨z1,e1,e2,a1,a2⟩
 ·exact .err p e q (by simp only [e1]) (by simp only [e2]) e3
 simp only [e1,e2]
 rcases iQ a1 a2 with e1 | ⟨p,e,q,e1,e2,e3⟩ | ⟨t,u,z2,e1,e2,b1,b2,b3⟩
 ·exact .out (by simp only [e1])
 ·exact .err p e q (by simp only [e1]) (by simp only [e2]) e3
 simp only [e1,e2]
 subst b1
 rcases bU b2 b3 [40] with ⟨p,e,q,e1,e2,e3⟩ | ⟨z3,e1,e2,c1,c2⟩
 ·exact .err p e q (by simp only [e1]) (by simp only [e2]) e3
 simp only [e1,e2]
 rcases wJ f g true [] [] z3 hg c1 c2 .nil with e1 | ⟨p,e,q,e1,e2,e3⟩ | ⟨l,m,z4,e1,e2,d1,d2,d3⟩
 ·exact .out (by simp only [e1])
 ·exact .err p e q (by simp only [e1]) (by simp only [e2]) e3
 simp only [e1,e2]
 rcases bU d2 d3 [41] with ⟨p,e,q,e1,e2,e3⟩ | ⟨z5,e1,e2,f1,f2⟩
 ·exact .err p e q (by simp only [e1]) (by simp only [e2]) e3
 simp only [e1,e2]
 rcases (Jz f).1 g 0 z5 hg f1 f2 with e1 | ⟨p,e,q,e1,e2,e3⟩ | ⟨x,y,z6,e1,e2,g1,g2,g3⟩
 ·exact .out (by simp only [e1])
 ·exact .err p e q (by simp only [e1]) (by simp only [e2]) e3
 simp only [e1,e2]
 exact .ok _ _ z6 rfl rfl (.mk _ _ _ _ _ _ _ (h.at' he) (d1.append (.one g1))) g2 g3
inductive Ci {α:Type} (S:Nat→Nat→Prop) (A:α→α→Prop) (a b:Except aY α):Prop
 | out:a=.error aI→Ci S A a b
 | err (p:Nat) (e:Int) (q:Nat):a=.error (p,e)→b=.error (q,e)→S p q→Ci S A a b
 | ok (x y:α):a=.ok x→b=.ok y→A x y→Ci S A a b
theorem uZ:∀ (f g:Nat) (acc bcc:List Item) (z:Z),f≤g→ZS S z→ah (Z.l z)→ic S acc bcc→Ci S (ic S) (partsS f acc (Z.l z)) (partsS g bcc (Z.r z))
 | 0,_,_,_,_,_,_,_,_=>.out (by unfold partsS; rfl)
 | f+1,g,acc,bcc,z,hg,h,he,ha=>by
  obtain ⟨g,rfl⟩:∃ g',g=g'+1:=⟨g - 1,by omega⟩
  unfold partsS
  rw [h.kind,h.isT]
  by_cases hk:aj (Z.l z)=5
  ·rw [if_pos hk,if_pos hk]
   exact .ok _ _ rfl rfl ha
  rw [if_neg hk,if_neg hk]
  have c:fJ S (fI S) (if isT [118,97,114] (Z.l z)=true then dO (Z.l z) else dU f (Z.l z)) (if isT [118,97,114] (Z.l z)=true then dO (Z.r z) else dU g (Z.r z)):=by
   split
   ·exact Ep h he
   ·exact Hq (by omega) h he
  rcases c with e1 | ⟨p,e,q,e1,e2,e3⟩ | ⟨x,y,z1,e1,e2,a1,a2,a3⟩
  ·exact .out (by simp only [e1])
  ·exact .err p e q (by simp only [e1]) (by simp only [e2]) e3
  simp only [e1,e2]
  exact uZ f g _ _ z1 (by omega) a2 a3 (ha.append (.one a1))
end Go.Proofs.YtkkeocnnecegbaaGreatDoor
namespace Go.Proofs.YtkkeocnnecegbaaGreatDoor
inductive aS {α:Type} (P:List Tok→Except aY (α×List Tok)) (ts:List Tok):Prop
 | out:P ts=.error aI→aS P ts
 | err (pre:List Tok) (t:Tok) (post:List Tok) (e:Int):ts=pre ++ t :: post→(e=140∨(e=141∧t.kind≠5))→(∀ post',P (pre ++ t :: post')=.error (t.at',e))→aS P ts
 | ok (x:α) (c r:List Tok):ts=c ++ r→(∀ r',r'.head? = r.head?→P (c ++ r')=.ok (x,r'))→aS P ts
def bnd {α β:Type} (a:Except aY (α×List Tok)) (F:α→List Tok→Except aY (β×List Tok)):Except aY (β×List Tok) :=
 match a with
 | .error e=>.error e
 | .ok (x,r)=>F x r
def lift (a:Except aY (List Tok)):Except aY (Unit×List Tok) :=
 match a with
 | .error e=>.error e
 | .ok r=>.ok ((),r)
theorem jC (c:List Tok) {a b:List Tok} (h:a.head? = b.head?):(c ++ a).head? = (c ++ b).head?:=by cases c <;> simp [h]
theorem iB (pre:List Tok) (t:Tok) (a b:List Tok):(pre ++ t :: a).head? = (pre ++ t :: b).head?:=by cases pre <;> simp
theorem aS.bind {α β:Type} {P1:List Tok→Except aY (α×List Tok)} {P2:α→List Tok→Except aY (β×List Tok)} {P:List Tok→Except aY (β×List Tok)} {ts:List Tok}
  (h1:aS P1 ts) (hP:∀ ts',ts'.head? = ts.head?→P ts'=bnd (P1 ts') P2) (h2:∀ x r,P1 ts=.ok (x,r)→aS (P2 x) r):aS P ts:=by
 rcases h1 with e1 | ⟨pre,t,post,e,e1,e2,e3⟩ | ⟨x,c,r,e1,e2⟩
 ·exact .out (by rw [hP _ rfl,e1]; rfl)
 ·exact .err pre t post e e1 e2 (fun post'=>by rw [hP _ (by rw [e1]; exact iB _ _ _ _),e3]; rfl)
 ·rcases h2 x r (by rw [e1]; exact e2 r rfl) with f1 | ⟨pre,t,post,e,f1,f2,f3⟩ | ⟨y,d,r2,f1,f2⟩
  ·exact .out (by rw [hP _ rfl,e1,e2 r rfl]; exact f1)
  ·refine .err (c ++ pre) t post e (by rw [e1,f1,List.append_assoc]) f2 (fun post'=>?_)
   rw [List.append_assoc,hP _ (by rw [e1,f1]; exact jC c (iB _ _ _ _)),e2 _ (by rw [f1]; exact iB _ _ _ _)]
   exact f3 post'
  ·refine .ok y (c ++ d) r2 (by rw [e1,f1,List.append_assoc]) (fun r' hr=>?_)
   rw [List.append_assoc,hP _ (by rw [e1,f1]; exact jC c (jC d hr)),e2 _ (by rw [f1]; exact jC d hr)]
   exact f2 r' hr
theorem aS.congr {α:Type} {P Q:List Tok→Except aY (α×List Tok)} {ts:List Tok} (h:aS Q ts) (hP:∀ ts',ts'.head? = ts.head?→P ts'=Q ts'):aS P ts:=by
 rcases h with e1 | ⟨pre,t,post,e,e1,e2,e3⟩ | ⟨x,c,r,e1,e2⟩
 ·exact .out (by rw [hP _ rfl,e1])
 ·exact .err pre t post e e1 e2 (fun post'=>by rw [hP _ (by rw [e1]; exact iB _ _ _ _),e3])
 ·exact .ok x c r e1 (fun r' hr=>by rw [hP _ (by rw [e1]; exact jC c hr),e2 _ hr])
theorem aS.pure {α:Type} (x:α) (ts:List Tok):aS (fun r=>.ok (x,r)) ts:=.ok x [] ts rfl (fun _ _=>rfl)
theorem jb {a b:List Tok} (h:a.head? = b.head?):aj a=aj b:=by cases a <;> cases b <;> simp_all [aj]
theorem uj {a b:List Tok} (h:a.head? = b.head?):bT a=bT b:=by cases a <;> cases b <;> simp_all [bT]
theorem ja {a b:List Tok} (h:a.head? = b.head?):nowAt a=nowAt b:=by cases a <;> cases b <;> simp_all [nowAt]
theorem KP {a b:List Tok} (h:a.head? = b.head?):jR a=jR b:=by cases a <;> cases b <;> simp_all [jR]
theorem dZ {a b:List Tok} (h:a.head? = b.head?) (x:List UInt8):isT x a=isT x b:=by unfold isT; rw [jb h,uj h]
theorem Ai {a b:List Tok} (h:a.head? = b.head?) (of:Nat):bQ of a=bQ of b:=by
 have:∀ (l:List (List UInt8)) (n:Nat),markFrom of a n l=markFrom of b n l:=by
  intro l
  induction l with
  | nil=>intro n; rfl
  | cons m r ih=>intro n; unfold markFrom; rw [dZ h,ih]
 exact this _ _
theorem zS {a b:List Tok} (h:a.head? = b.head?):aG a=aG b:=by unfold aG; rw [jb h,uj h]
def Ib (ts:List Tok):Except aY (Unit×List Tok):=.ok ((),ts.tail)
theorem kD {ts:List Tok} (he:ah ts):aS Ib ts:=by
 cases ts with
 | nil=>cases he
 | cons t r=>exact .ok () [t] r rfl (fun _ _=>rfl)
theorem qO {α:Type} {P:List Tok→Except aY (α×List Tok)} {ts:List Tok} (he:ah ts) (h:∀ ts',ts'.head? = ts.head?→P ts'=.error (nowAt ts',140)):aS P ts:=by
 cases ts with
 | nil=>cases he
 | cons t r=>exact .err [] t r 140 rfl (Or.inl rfl) (fun post'=>h _ rfl)
theorem bZ {ts:List Tok} (he:ah ts) (x:List UInt8):aS (fun ts=>lift (af x ts)) ts:=by
 by_cases hi:isT x ts=true
 ·refine (kD he).congr (fun ts' h=>?_)
  simp only [af,dZ h,hi,if_true]; rfl
 ·refine qO he (fun ts' h=>?_)
  simp only [af,dZ h,hi]; rfl
theorem kH {ts:List Tok} (he:ah ts) (x:List UInt8) (d:Nat):aS (fun ts=>lift (aR x d ts)) ts:=by
 by_cases hi:(isT x ts && decide (64≤d))=true
 ·cases ts with
  | nil=>cases he
  | cons t r =>
   refine .err [] t r 141 rfl (Or.inr ⟨rfl,?_⟩) (fun post'=>?_)
   ·simp only [Bool.and_eq_true] at hi
    have:=gJ hi.1
    exact this
   ·simp only [List.nil_append,aR,dZ (show (t :: post').head? = (t :: r).head? from rfl),hi,if_true]; rfl
 ·refine (bZ he x).congr (fun ts' h=>?_)
  simp only [aR,dZ h,hi]; rfl
theorem iV {ts:List Tok} (he:ah ts):aS aM ts:=by
 by_cases hi:aj ts=1
 ·cases ts with
  | nil=>cases he
  | cons t r =>
   refine .ok t.text [t] r rfl (fun r' _=>?_)
   have hk:aj ([t] ++ r')=1:=hi
   unfold aM; rw [if_pos hk]; rfl
 ·refine qO he (fun ts' h=>?_)
  simp only [aM,jb h,hi,if_false]
theorem dJ {a:Except aY (List Tok)} {u:Unit} {r:List Tok} (h:lift a=.ok (u,r)):a=.ok r:=by
 cases a with
 | error e=>cases h
 | ok s=>injection h with h; injection h with _ h; rw [h]
theorem JO:∀ f:Nat,
  (∀ of d ts,ah ts→aS (binS f of d) ts)∧(∀ of d a x ts,ah ts→aS (loopS f of d a x) ts) ∧
  (∀ d ts,ah ts→aS (unS f d) ts)∧(∀ d ts,ah ts→aS (cB f d) ts)
 | 0=>⟨fun _ _ _ _=>.out (by unfold binS; rfl),fun _ _ _ _ _ _=>.out (by unfold loopS; rfl),fun _ _ _=>.out (by unfold unS; rfl),fun _ _ _=>.out (by unfold cB; rfl)⟩
 | f+1=>by
  obtain ⟨hb,hl,hu,hf⟩:=JO f
  obtain ⟨ob,ol,ou,of'⟩:=qh f
  refine⟨?_,?_,?_,?_⟩
  ·intro of d ts he
   by_cases ho:3<of
   ·refine (hu d ts he).congr (fun ts' h=>?_)
    unfold binS; rw [if_pos ho]
   ·refine (hb (of+1) d ts he).bind (P2:=fun x r=>loopS f of d (nowAt ts) x r) (fun ts' h=>?_) (fun x r h=>hl _ _ _ _ _ (ob _ _ _ _ _ he h).1)
    conv=>lhs; unfold binS
    rw [if_neg ho,ja h]
    cases binS f (of+1) d ts' <;> rfl
  ·intro of d a x ts he
   by_cases hm:bQ of ts=0
   ·refine (aS.pure x ts).congr (fun ts' h=>?_)
    unfold loopS; rw [Ai h,if_pos hm]
   ·refine (kD he).bind (P2:=fun _ r=>bnd (binS f (of+1) d r) (fun y r'=>loopS f of d a (.mk 21 [] (bQ of ts) a [x,y]) r')) (fun ts' h=>?_) (fun u r h=>?_)
    ·conv=>lhs; unfold loopS
     rw [Ai h,if_neg hm]
     show _=bnd (binS f (of+1) d ts'.tail) _
     cases binS f (of+1) d ts'.tail <;> rfl
    ·have hr:ah r:=by
      injection h with h; injection h with _ h; rw [← h]; exact (jm he hm).1
     exact (hb (of+1) d r hr).bind (fun _ _=>rfl) (fun y r' h=>hl _ _ _ _ _ (ob _ _ _ _ _ hr h).1)
  ·intro d ts he
   have un:∀ (m:List UInt8) (n:Int),aS (fun ts'=>bnd (lift (aR m d ts')) (fun _ r=>bnd (unS f (d+1) r) (fun x r'=>.ok (Item.mk 20 [] n (nowAt ts) [x],r')))) ts:=by
    intro m n
    refine (kH he m d).bind (fun _ _=>rfl) (fun u r h=>?_)
    have hr:=(dL he (dJ h)).1
    exact (hu (d+1) r hr).bind (fun _ _=>rfl) (fun x r' _=>aS.pure _ r')
   by_cases h1:isT [45] ts=true
   ·refine (un [45] 1).congr (fun ts' h=>?_)
    conv=>lhs; unfold unS
    rw [dZ h,if_pos h1,ja h]
    cases aR [45] d ts' with
    | error e=>rfl
    | ok r =>
     simp only [lift,bnd]
     try (cases unS f (d+1) r <;> rfl)
   by_cases h2:isT [33] ts=true
   ·refine (un [33] 2).congr (fun ts' h=>?_)
    conv=>lhs; unfold unS
    rw [dZ h,if_neg h1,dZ h,if_pos h2,ja h]
    cases aR [33] d ts' with
    | error e=>rfl
    | ok r =>
     simp only [lift,bnd]
     try (cases unS f (d+1) r <;> rfl)
   ·refine (hf d ts he).congr (fun ts' h=>?_)
    conv=>lhs; unfold unS
    rw [dZ h,if_neg h1,dZ h,if_neg h2]
  ·intro d ts he
   by_cases k3:aj ts=3
   ·refine (kD he).bind (P2:=fun _ r=>.ok (.mk 17 [] (jR ts) (nowAt ts) [],r)) (fun ts' h=>?_) (fun u r _=>aS.pure _ r)
    conv=>lhs; unfold cB
    rw [jb h,if_pos k3,KP h,ja h]; rfl
   by_cases k1:aj ts=1
   ·refine (kD he).bind (P2:=fun _ r=>if isT [91] r=true then bnd (lift (aR [91] d r)) (fun _ r=>bnd (binS f 1 (d+1) r) (fun x r=>bnd (lift (af [93] r)) (fun _ r=>.ok (.mk 19 (bT ts) 0 (nowAt ts) [x],r)))) else .ok (.mk 18 (bT ts) 0 (nowAt ts) [],r)) (fun ts' h=>?_) (fun u r h=>?_)
    ·conv=>lhs; unfold cB
     rw [jb h,if_neg k3,if_pos k1,uj h,ja h]
     show _=if isT [91] ts'.tail=true then _ else _
     split
     ·cases aR [91] d ts'.tail with
      | error e=>rfl
      | ok r =>
       simp only [lift,bnd]
       cases binS f 1 (d+1) r with
       | error e=>rfl
       | ok v =>
        obtain ⟨x,r2⟩:=v
        simp only []
        cases af [93] r2 <;> rfl
     ·rfl
    ·have hr:ah r:=by
      injection h with h; injection h with _ h; rw [← h]; exact (he.tail (by omega)).1
     by_cases hi:isT [91] r=true
     ·refine aS.congr (Q:=fun r=>bnd (lift (aR [91] d r)) (fun _ r=>bnd (binS f 1 (d+1) r) (fun x r=>bnd (lift (af [93] r)) (fun _ r=>.ok (.mk 19 (bT ts) 0 (nowAt ts) [x],r))))) ?_ (fun r' h=>by simp only [dZ h,hi,if_true])
      refine (kH hr [91] d).bind (fun _ _=>rfl) (fun u r1 h=>?_)
      have h1:=(dL hr (dJ h)).1
      refine (hb 1 (d+1) r1 h1).bind (fun _ _=>rfl) (fun x r2 h=>?_)
      have h2:=(ob _ _ _ _ _ h1 h).1
      exact (bZ h2 [93]).bind (fun _ _=>rfl) (fun u r3 _=>aS.pure _ r3)
     ·exact (aS.pure _ r).congr (fun r' h=>by simp only [dZ h,hi]; rfl)
   ·refine aS.congr (Q:=fun r=>bnd (lift (aR [40] d r)) (fun _ r=>bnd (binS f 1 (d+1) r) (fun x r=>bnd (lift (af [41] r)) (fun _ r=>.ok (x,r))))) ?_ (fun ts' h=>?_)
    ·refine (kH he [40] d).bind (fun _ _=>rfl) (fun u r1 h=>?_)
     have h1:=(dL he (dJ h)).1
     refine (hb 1 (d+1) r1 h1).bind (fun _ _=>rfl) (fun x r2 h=>?_)
     have h2:=(ob _ _ _ _ _ h1 h).1
     exact (bZ h2 [41]).bind (fun _ _=>rfl) (fun u r3 _=>aS.pure _ r3)
    ·conv=>lhs; unfold cB
     rw [jb h,if_neg k3,if_neg k1]
     cases aR [40] d ts' with
     | error e=>rfl
     | ok r =>
      simp only [lift,bnd]
      cases binS f 1 (d+1) r with
      | error e=>rfl
      | ok v =>
       obtain ⟨x,r2⟩:=v
       simp only []
       cases af [41] r2 <;> rfl
theorem nI {f d:Nat} {ts:List Tok} (he:ah ts):aS (binS f 1 d) ts:=(JO f).1 1 d ts he
theorem og {f d:Nat} {ts:List Tok} (he:ah ts):aS (bA f d) ts:=by
 refine (nI (f:=f) (d:=d) he).bind (P2:=fun x r=>bnd (lift (af [59] r)) (fun _ r'=>.ok (x,r'))) (fun ts' h=>?_) (fun x r h=>(bZ (fE he h).1 [59]).bind (fun _ _=>rfl) (fun u r3 _=>aS.pure _ r3))
 unfold bA
 cases binS f 1 d ts' with
 | error e=>rfl
 | ok v =>
  obtain ⟨x,r⟩:=v
  simp only [bnd,lift]
  cases af [59] r <;> rfl
theorem wQ:∀ (f d:Nat) (b:Bool) (acc:List Item) (ts:List Tok),ah ts→aS (argsS f d b acc) ts
 | 0,_,_,_,_,_=>.out (by unfold argsS; rfl)
 | f+1,d,b,acc,ts,he=>by
  by_cases hi:isT [41] ts=true
  ·refine (aS.pure acc ts).congr (fun ts' h=>?_)
   unfold argsS; rw [dZ h,if_pos hi]
  ·have c:aS (fun ts'=>lift (if b=true then .ok ts' else af [44] ts')) ts:=by
    cases b
    ·exact bZ he [44]
    ·exact aS.pure () ts
   refine c.bind (P2:=fun _ r=>bnd (binS f 1 d r) (fun x r'=>argsS f d false (acc ++ [x]) r')) (fun ts' h=>?_) (fun u r h=>?_)
   ·conv=>lhs; unfold argsS
    rw [dZ h,if_neg hi]
    cases (if b=true then Except.ok ts' else af [44] ts') with
    | error e=>rfl
    | ok r =>
     simp only [lift,bnd]
     try (cases binS f 1 d r <;> rfl)
   ·have hr:ah r:=by
     have h:=dJ h
     cases b
     ·exact (aB he h).1
     ·injection h with h; rw [← h]; exact he
    exact (nI hr).bind (fun _ _=>rfl) (fun x r' h=>wQ f d false _ _ (fE hr h).1)
theorem wU:∀ (f:Nat) (b:Bool) (acc:List Item) (ts:List Tok),ah ts→aS (parsS f b acc) ts
 | 0,_,_,_,_=>.out (by unfold parsS; rfl)
 | f+1,b,acc,ts,he=>by
  by_cases hi:isT [41] ts=true
  ·refine (aS.pure acc ts).congr (fun ts' h=>?_)
   unfold parsS; rw [dZ h,if_pos hi]
  ·have c:aS (fun ts'=>lift (if b=true then .ok ts' else af [44] ts')) ts:=by
    cases b
    ·exact bZ he [44]
    ·exact aS.pure () ts
   refine c.bind (P2:=fun _ r=>bnd (aM r) (fun x r'=>parsS f false (acc ++ [.mk 4 x 0 (nowAt r) []]) r')) (fun ts' h=>?_) (fun u r h=>?_)
   ·conv=>lhs; unfold parsS
    rw [dZ h,if_neg hi]
    cases (if b=true then Except.ok ts' else af [44] ts') with
    | error e=>rfl
    | ok r =>
     simp only [lift,bnd]
     try (cases aM r <;> rfl)
   ·have hr:ah r:=by
     have h:=dJ h
     cases b
     ·exact (aB he h).1
     ·injection h with h; rw [← h]; exact he
    exact (iV hr).bind (P2:=fun x r'=>parsS f false (acc ++ [.mk 4 x 0 (nowAt r) []]) r') (fun ts' h=>by rw [ja h]) (fun x r' h=>wU f false _ _ (bP hr h).1)
theorem yU {f d a:Nat} {ts:List Tok} (he:ah ts):aS (bS f d a) ts:=by
 refine aS.congr (Q:=fun ts=>bnd (aM ts) (fun t r=>bnd (lift (af [61] r)) (fun _ r=>bnd (bA f d r) (fun x r=>.ok (.mk 6 t 0 a [x],r))))) ?_ (fun ts' _=>?_)
 ·refine (iV he).bind (fun _ _=>rfl) (fun t r1 h=>?_)
  have h1:=(bP he h).1
  refine (bZ h1 [61]).bind (fun _ _=>rfl) (fun u r2 h=>?_)
  have h2:=(aB h1 (dJ h)).1
  exact (og h2).bind (fun _ _=>rfl) (fun x r3 _=>aS.pure _ r3)
 ·unfold bS
  cases aM ts' with
  | error e=>rfl
  | ok v =>
   obtain ⟨t,r⟩:=v
   simp only [bnd,lift]
   cases af [61] r with
   | error e=>rfl
   | ok r2 =>
    simp only []
    try (cases bA f d r2 <;> rfl)
theorem FM {a:Nat} {ts:List Tok} (he:ah ts):aS (fC a) ts:=by
 refine aS.congr (Q:=fun ts=>bnd (aM ts) (fun t r=>bnd (lift (af [59] r)) (fun _ r=>.ok (.mk 14 t 0 a [],r)))) ?_ (fun ts' _=>?_)
 ·refine (iV he).bind (fun _ _=>rfl) (fun t r1 h=>?_)
  have h1:=(bP he h).1
  exact (bZ h1 [59]).bind (fun _ _=>rfl) (fun u r2 _=>aS.pure _ r2)
 ·unfold fC
  cases aM ts' with
  | error e=>rfl
  | ok v =>
   obtain ⟨t,r⟩:=v
   simp only [bnd,lift]
   cases af [59] r <;> rfl
theorem GZ {f d a:Nat} {ts:List Tok} (he:ah ts):aS (callS f d a) ts:=by
 refine aS.congr (Q:=fun ts=>bnd (aM ts) (fun t r=>bnd (lift (af [61] r)) (fun _ r1=>bnd (aM r1) (fun u r=>bnd (lift (af [40] r)) (fun _ r=>bnd (argsS f d true [] r) (fun l r=>bnd (lift (af [41] r)) (fun _ r=>bnd (lift (af [59] r)) (fun _ r=>.ok (.mk 15 t 0 a (.mk 16 u 0 (nowAt r1) [] :: l),r))))))))) ?_ (fun ts' _=>?_)
 ·refine (iV he).bind (fun _ _=>rfl) (fun t r1 h=>?_)
  have h1:=(bP he h).1
  refine (bZ h1 [61]).bind (fun _ _=>rfl) (fun u r2 h=>?_)
  have h2:=(aB h1 (dJ h)).1
  refine (iV h2).bind (P2:=fun u r=>bnd (lift (af [40] r)) (fun _ r=>bnd (argsS f d true [] r) (fun l r=>bnd (lift (af [41] r)) (fun _ r=>bnd (lift (af [59] r)) (fun _ r=>.ok (.mk 15 t 0 a (.mk 16 u 0 (nowAt r2) [] :: l),r)))))) (fun ts' h=>by rw [ja h]) (fun u r3 h=>?_)
  have h3:=(bP h2 h).1
  refine (bZ h3 [40]).bind (fun _ _=>rfl) (fun _ r4 h=>?_)
  have h4:=(aB h3 (dJ h)).1
  refine (wQ f d true [] r4 h4).bind (fun _ _=>rfl) (fun l r5 h=>?_)
  have h5:=(uh _ _ _ _ _ _ _ h4 h).1
  refine (bZ h5 [41]).bind (fun _ _=>rfl) (fun _ r6 h=>?_)
  have h6:=(aB h5 (dJ h)).1
  exact (bZ h6 [59]).bind (fun _ _=>rfl) (fun _ r7 _=>aS.pure _ r7)
 ·unfold callS
  cases aM ts' with
  | error e=>rfl
  | ok v =>
   obtain ⟨t,r⟩:=v
   simp only [bnd,lift]
   cases af [61] r with
   | error e=>rfl
   | ok r2 =>
    simp only []
    cases aM r2 with
    | error e=>rfl
    | ok v =>
     obtain ⟨u,r3⟩:=v
     simp only []
     cases af [40] r3 with
     | error e=>rfl
     | ok r4 =>
      simp only []
      cases argsS f d true [] r4 with
      | error e=>rfl
      | ok v =>
       obtain ⟨l,r5⟩:=v
       simp only []
       cases af [41] r5 with
       | error e=>rfl
       | ok r6 =>
        simp only []
        cases af [59] r6 <;> rfl
theorem BN {f d:Nat} {ts:List Tok} (he:ah ts):aS (bH f d) ts:=by
 refine (iV he).bind (P2:=fun t r=>if isT [91] r=true then bnd (lift (aR [91] d r)) (fun _ r=>bnd (binS f 1 (d+1) r) (fun x r=>bnd (lift (af [93] r)) (fun _ r=>bnd (lift (af [61] r)) (fun _ r=>bnd (bA f d r) (fun y r=>.ok (.mk 8 t 0 (nowAt ts) [x,y],r)))))) else bnd (lift (af [61] r)) (fun _ r=>bnd (bA f d r) (fun x r=>.ok (.mk 7 t 0 (nowAt ts) [x],r)))) (fun ts' h=>?_) (fun t r1 h=>?_)
 ·unfold bH
  rw [ja h]
  cases aM ts' with
  | error e=>rfl
  | ok v =>
   obtain ⟨t,r⟩:=v
   simp only [bnd,lift]
   split
   ·cases aR [91] d r with
    | error e=>rfl
    | ok r2 =>
     simp only []
     cases binS f 1 (d+1) r2 with
     | error e=>rfl
     | ok v =>
      obtain ⟨x,r3⟩:=v
      simp only []
      cases af [93] r3 with
      | error e=>rfl
      | ok r4 =>
       simp only []
       cases af [61] r4 with
       | error e=>rfl
       | ok r5 =>
        simp only []
        try (cases bA f d r5 <;> rfl)
   ·cases af [61] r with
    | error e=>rfl
    | ok r5 =>
     simp only []
     try (cases bA f d r5 <;> rfl)
 ·have h1:=(bP he h).1
  by_cases hi:isT [91] r1=true
  ·refine aS.congr (Q:=fun r=>bnd (lift (aR [91] d r)) (fun _ r=>bnd (binS f 1 (d+1) r) (fun x r=>bnd (lift (af [93] r)) (fun _ r=>bnd (lift (af [61] r)) (fun _ r=>bnd (bA f d r) (fun y r=>.ok (.mk 8 t 0 (nowAt ts) [x,y],r))))))) ?_ (fun r' h=>by simp only [dZ h,hi,if_true])
   refine (kH h1 [91] d).bind (fun _ _=>rfl) (fun u r2 h=>?_)
   have h2:=(dL h1 (dJ h)).1
   refine (nI (f:=f) (d:=d+1) h2).bind (fun _ _=>rfl) (fun x r3 h=>?_)
   have h3:=(fE h2 h).1
   refine (bZ h3 [93]).bind (fun _ _=>rfl) (fun _ r4 h=>?_)
   have h4:=(aB h3 (dJ h)).1
   refine (bZ h4 [61]).bind (fun _ _=>rfl) (fun _ r5 h=>?_)
   have h5:=(aB h4 (dJ h)).1
   exact (og h5).bind (fun _ _=>rfl) (fun y r6 _=>aS.pure _ r6)
  ·refine aS.congr (Q:=fun r=>bnd (lift (af [61] r)) (fun _ r=>bnd (bA f d r) (fun x r=>.ok (.mk 7 t 0 (nowAt ts) [x],r)))) ?_ (fun r' h=>by simp only [dZ h,hi]; rfl)
   refine (bZ h1 [61]).bind (fun _ _=>rfl) (fun _ r5 h=>?_)
   have h5:=(aB h1 (dJ h)).1
   exact (og h5).bind (fun _ _=>rfl) (fun y r6 _=>aS.pure _ r6)
theorem Kc:∀ f:Nat,
  (∀ d ts,ah ts→aS (aH f d) ts)∧(∀ d acc ts,ah ts→aS (stmtsS f d acc) ts)∧(∀ d a ts,ah ts→aS (bI f d a) ts) ∧
  (∀ d a ts,ah ts→aS (fw f d a) ts)∧(∀ d ts,ah ts→aS (aZ f d) ts)
 | 0=>⟨fun _ _ _=>.out (by unfold aH; rfl),fun _ _ _ _=>.out (by unfold stmtsS; rfl),fun _ _ _ _=>.out (by unfold bI; rfl),fun _ _ _ _=>.out (by unfold fw; rfl),fun _ _ _=>.out (by unfold aZ; rfl)⟩
 | f+1=>by
  obtain ⟨hb,hl,hc,hf,hs⟩:=Kc f
  obtain ⟨ob,ol,oc,of',os⟩:=kC f
  refine⟨?_,?_,?_,?_,?_⟩
  ·intro d ts he
   refine (kH he [123] d).bind (P2:=fun _ r=>bnd (stmtsS f (d+1) [] r) (fun l r=>bnd (lift (af [125] r)) (fun _ r=>.ok (.mk 5 [] 0 (nowAt ts) l,r)))) (fun ts' h=>?_) (fun u r1 h=>?_)
   ·conv=>lhs; unfold aH
    rw [ja h]
    cases aR [123] d ts' with
    | error e=>rfl
    | ok r =>
     simp only [bnd,lift]
     cases stmtsS f (d+1) [] r with
     | error e=>rfl
     | ok v =>
      obtain ⟨l,r2⟩:=v
      simp only []
      cases af [125] r2 <;> rfl
   ·have h1:=(dL he (dJ h)).1
    refine (hl (d+1) [] r1 h1).bind (fun _ _=>rfl) (fun l r2 h=>?_)
    have h2:=(ol _ _ _ _ _ h1 h).1
    exact (bZ h2 [125]).bind (fun _ _=>rfl) (fun _ r3 _=>aS.pure _ r3)
  ·intro d acc ts he
   by_cases hi:isT [125] ts=true
   ·refine (aS.pure acc ts).congr (fun ts' h=>?_)
    unfold stmtsS; rw [dZ h,if_pos hi]
   ·refine (hs d ts he).bind (P2:=fun x r=>stmtsS f d (acc ++ [x]) r) (fun ts' h=>?_) (fun x r h=>hl _ _ _ (os _ _ _ _ he h).1)
    conv=>lhs; unfold stmtsS
    rw [dZ h,if_neg hi]
    cases aZ f d ts' <;> rfl
  ·intro d a ts he
   refine (nI (f:=f) (d:=d) he).bind (P2:=fun x r=>bnd (aH f d r) (fun b r=>if isT [101,108,115,101] r=true then bnd (aH f d r.tail) (fun c r=>.ok (.mk 9 [] 0 a [x,b,c],r)) else .ok (.mk 9 [] 0 a [x,b],r))) (fun ts' h=>?_) (fun x r1 h=>?_)
   ·conv=>lhs; unfold bI
    cases binS f 1 d ts' with
    | error e=>rfl
    | ok v =>
     obtain ⟨x,r⟩:=v
     simp only [bnd]
     cases aH f d r with
     | error e=>rfl
     | ok v =>
      obtain ⟨b,r2⟩:=v
      simp only []
      try (split <;> first | rfl | (cases aH f d r2.tail <;> rfl))
   ·have h1:=(fE he h).1
    refine (hb d r1 h1).bind (fun _ _=>rfl) (fun b r2 h=>?_)
    have h2:=(ob _ _ _ _ h1 h).1
    by_cases hi:isT [101,108,115,101] r2=true
    ·refine (kD h2).bind (P2:=fun _ r=>bnd (aH f d r) (fun c r=>.ok (.mk 9 [] 0 a [x,b,c],r))) (fun r' h=>by rw [dZ h,if_pos hi]; rfl) (fun u r3 h=>?_)
     have h3:ah r3:=by
      injection h with h; injection h with _ h; rw [← h]; exact (h2.tail (gJ hi)).1
     exact (hb d r3 h3).bind (fun _ _=>rfl) (fun c r4 _=>aS.pure _ r4)
    ·exact (aS.pure _ r2).congr (fun r' h=>by rw [dZ h,if_neg hi])
  ·intro d a ts he
   refine (nI (f:=f) (d:=d) he).bind (P2:=fun x r=>bnd (aH f d r) (fun b r=>.ok (.mk 10 [] 0 a [x,b],r))) (fun ts' h=>?_) (fun x r1 h=>(hb d r1 (fE he h).1).bind (fun _ _=>rfl) (fun b r2 _=>aS.pure _ r2))
   conv=>lhs; unfold fw
   cases binS f 1 d ts' with
   | error e=>rfl
   | ok v =>
    obtain ⟨x,r⟩:=v
    simp only [bnd]
    try (cases aH f d r <;> rfl)
  ·intro d ts he
   by_cases h0:aG ts=0
   ·refine (BN (f:=f) (d:=d) he).congr (fun ts' h=>?_)
    unfold aZ; rw [zS h,if_pos h0]
   have ht:=(iI he h0).1
   refine (kD he).bind (P2:=fun _ r=>if aG ts=6 then bS f d (nowAt ts) r else if aG ts=9 then bI f d (nowAt ts) r else if aG ts=10 then fw f d (nowAt ts) r else if aG ts=14 then fC (nowAt ts) r else if aG ts=15 then callS f d (nowAt ts) r else bnd (bA f d r) (fun x r=>.ok (.mk (aG ts) [] 0 (nowAt ts) [x],r))) (fun ts' h=>?_) (fun u r h=>?_)
   ·conv=>lhs; unfold aZ
    rw [zS h,if_neg h0,ja h]
    simp only [Ib,bnd]
    cases bA f d ts'.tail <;> rfl
   ·have hr:ah r:=by
     injection h with h; injection h with _ h; rw [← h]; exact ht
    split
    ·exact yU hr
    split
    ·exact hc d _ r hr
    split
    ·exact hf d _ r hr
    split
    ·exact FM hr
    split
    ·exact GZ hr
    exact (og hr).bind (fun _ _=>rfl) (fun x r1 _=>aS.pure _ r1)
end Go.Proofs.YtkkeocnnecegbaaGreatDoor
namespace Go.Proofs.YtkkeocnnecegbaaGreatDoor
inductive jA {α:Type} (P:List Tok→Except aY (α×List Tok)) (ts:List Tok):Prop
 | out:P ts=.error aI→jA P ts
 | err (pre:List Tok) (t:Tok) (post:List Tok) (e:Int):ts=pre ++ t :: post→(e=140∨(e=141∧t.kind≠5))→(∀ post',P (pre ++ t :: post')=.error (t.at',e))→jA P ts
 | ok (x:α) (c r:List Tok):c≠[]→ts=c ++ r→(∀ r',P (c ++ r')=.ok (x,r'))→jA P ts
theorem head_ne {c:List Tok} (hc:c≠[]) (a b:List Tok):(c ++ a).head? = (c ++ b).head?:=by cases c <;> simp_all
theorem aS.jr {α β:Type} {P1:List Tok→Except aY (α×List Tok)} {P2:α→List Tok→Except aY (β×List Tok)} {P:List Tok→Except aY (β×List Tok)} {ts:List Tok}
  (h1:aS P1 ts) (hP:∀ ts',ts'.head? = ts.head?→P ts'=bnd (P1 ts') P2) (h2:∀ x r,P1 ts=.ok (x,r)→jA (P2 x) r):jA P ts:=by
 rcases h1 with e1 | ⟨pre,t,post,e,e1,e2,e3⟩ | ⟨x,c,r,e1,e2⟩
 ·exact .out (by rw [hP _ rfl,e1]; rfl)
 ·exact .err pre t post e e1 e2 (fun post'=>by rw [hP _ (by rw [e1]; exact iB _ _ _ _),e3]; rfl)
 ·rcases h2 x r (by rw [e1]; exact e2 r rfl) with f1 | ⟨pre,t,post,e,f1,f2,f3⟩ | ⟨y,d,r2,f0,f1,f2⟩
  ·exact .out (by rw [hP _ rfl,e1,e2 r rfl]; exact f1)
  ·refine .err (c ++ pre) t post e (by rw [e1,f1,List.append_assoc]) f2 (fun post'=>?_)
   rw [List.append_assoc,hP _ (by rw [e1,f1]; exact jC c (iB _ _ _ _)),e2 _ (by rw [f1]; exact iB _ _ _ _)]
   exact f3 post'
  ·refine .ok y (c ++ d) r2 (by simp [f0]) (by rw [e1,f1,List.append_assoc]) (fun r'=>?_)
   rw [List.append_assoc,hP _ (by rw [e1,f1]; exact jC c (head_ne f0 _ _)),e2 _ (by rw [f1]; exact head_ne f0 _ _)]
   exact f2 r'
theorem uN {β:Type} {ts:List Tok} (he:ah ts) (x:List UInt8) (b:β):jA (fun ts=>bnd (lift (af x ts)) (fun _ r=>.ok (b,r))) ts:=by
 cases ts with
 | nil=>cases he
 | cons t r =>
  by_cases hi:isT x (t :: r)=true
  ·refine .ok b [t] r (by simp) rfl (fun r'=>?_)
   have hi':isT x ([t] ++ r')=true:=by rw [← hi]; exact dZ rfl x
   simp only [af,hi',if_true]; rfl
  ·refine .err [] t r 140 rfl (Or.inl rfl) (fun post'=>?_)
   have hi':isT x ([] ++ t :: post')=false:=by
    have:=dZ (show ([] ++ t :: post').head? = (t :: r).head? from rfl) x
    rw [this]; simpa using hi
   simp only [af,hi']; rfl
theorem jA.map {α β:Type} {P1:List Tok→Except aY (α×List Tok)} {g:α→β} {P:List Tok→Except aY (β×List Tok)} {ts:List Tok}
  (h1:jA P1 ts) (hP:∀ ts',P ts'=bnd (P1 ts') (fun x r=>.ok (g x,r))):jA P ts:=by
 rcases h1 with e1 | ⟨pre,t,post,e,e1,e2,e3⟩ | ⟨x,c,r,e0,e1,e2⟩
 ·exact .out (by rw [hP,e1]; rfl)
 ·exact .err pre t post e e1 e2 (fun post'=>by rw [hP,e3]; rfl)
 ·exact .ok (g x) c r e0 e1 (fun r'=>by rw [hP,e2]; rfl)
theorem BJ {f d:Nat} {ts:List Tok} (he:ah ts):jA (aH f d) ts:=by
 cases f with
 | zero=>exact .out (by unfold aH; rfl)
 | succ f =>
  refine (kH he [123] d).jr (P2:=fun _ r=>bnd (stmtsS f (d+1) [] r) (fun l r=>bnd (lift (af [125] r)) (fun _ r=>.ok (.mk 5 [] 0 (nowAt ts) l,r)))) (fun ts' h=>?_) (fun u r1 h=>?_)
  ·conv=>lhs; unfold aH
   rw [ja h]
   cases aR [123] d ts' with
   | error e=>rfl
   | ok r =>
    simp only [bnd,lift]
    cases stmtsS f (d+1) [] r with
    | error e=>rfl
    | ok v =>
     obtain ⟨l,r2⟩:=v
     simp only []
     cases af [125] r2 <;> rfl
  ·have h1:=(dL he (dJ h)).1
   refine ((Kc f).2.1 (d+1) [] r1 h1).jr (fun _ _=>rfl) (fun l r2 h=>?_)
   have h2:=((kC f).2.1 _ _ _ _ _ h1 h).1
   exact uN h2 [125] _
theorem DZ {f:Nat} {ts:List Tok} (he:ah ts):jA (dU f) ts:=by
 refine (bZ he [102,117,110,99]).jr (P2:=fun _ r=>bnd (aM r) (fun t r=>bnd (lift (af [40] r)) (fun _ r=>bnd (parsS f true [] r) (fun l r=>bnd (lift (af [41] r)) (fun _ r=>bnd (aH f 0 r) (fun b r=>.ok (.mk 3 t 0 (nowAt ts) (l ++ [b]),r))))))) (fun ts' h=>?_) (fun u r1 h=>?_)
 ·unfold dU
  rw [ja h]
  cases af [102,117,110,99] ts' with
  | error e=>rfl
  | ok r =>
   simp only [bnd,lift]
   cases aM r with
   | error e=>rfl
   | ok v =>
    obtain ⟨t,r2⟩:=v
    simp only []
    cases af [40] r2 with
    | error e=>rfl
    | ok r3 =>
     simp only []
     cases parsS f true [] r3 with
     | error e=>rfl
     | ok v =>
      obtain ⟨l,r4⟩:=v
      simp only []
      cases af [41] r4 with
      | error e=>rfl
      | ok r5 =>
       simp only []
       try (cases aH f 0 r5 <;> rfl)
 ·have h1:=(aB he (dJ h)).1
  refine (iV h1).jr (fun _ _=>rfl) (fun t r2 h=>?_)
  have h2:=(bP h1 h).1
  refine (bZ h2 [40]).jr (fun _ _=>rfl) (fun _ r3 h=>?_)
  have h3:=(aB h2 (dJ h)).1
  refine (wU f true [] r3 h3).jr (fun _ _=>rfl) (fun l r4 h=>?_)
  have h4:=(nO _ _ _ _ _ _ h3 h).1
  refine (bZ h4 [41]).jr (fun _ _=>rfl) (fun _ r5 h=>?_)
  have h5:=(aB h4 (dJ h)).1
  exact (BJ h5).map (fun _=>rfl)
def qR (ts:List Tok):Except aY (Int×List Tok):=if aj ts=3 then .ok (jR ts,ts.tail) else .error (nowAt ts,140)
theorem Jf {ts:List Tok} (he:ah ts):aS qR ts:=by
 by_cases hi:aj ts=3
 ·cases ts with
  | nil=>cases he
  | cons t r =>
   refine .ok t.n [t] r rfl (fun r' _=>?_)
   have hk:aj ([t] ++ r')=3:=hi
   unfold qR; rw [if_pos hk]; rfl
 ·refine qO he (fun ts' h=>?_)
  simp only [qR,jb h,hi,if_false]
theorem Iz {ts r:List Tok} {n:Int} (he:ah ts) (h:qR ts=.ok (n,r)):ah r:=by
 unfold qR at h
 split at h
 ·rename_i hi
  injection h with h; injection h with h1 h2; subst h1 h2
  exact (he.tail (by omega)).1
 ·cases h
theorem Cf {ts:List Tok} (he:ah ts):jA dO ts:=by
 refine (bZ he [118,97,114]).jr (P2:=fun _ r=>bnd (aM r) (fun t r=>bnd (lift (af [91] r)) (fun _ r=>bnd (qR r) (fun n r=>bnd (lift (af [93] r)) (fun _ r=>bnd (lift (af [59] r)) (fun _ r=>.ok (.mk 2 t n (nowAt ts) [],r))))))) (fun ts' h=>?_) (fun u r1 h=>?_)
 ·unfold dO
  rw [ja h]
  cases af [118,97,114] ts' with
  | error e=>rfl
  | ok r =>
   simp only [bnd,lift]
   cases aM r with
   | error e=>rfl
   | ok v =>
    obtain ⟨t,r2⟩:=v
    simp only []
    cases af [91] r2 with
    | error e=>rfl
    | ok r3 =>
     simp only [qR]
     by_cases hk:aj r3=3
     ·rw [if_pos hk,if_pos hk]
      simp only []
      cases af [93] r3.tail with
      | error e=>rfl
      | ok r4 =>
       simp only []
       cases af [59] r4 <;> rfl
     ·rw [if_neg hk,if_neg hk]
 ·have h1:=(aB he (dJ h)).1
  refine (iV h1).jr (fun _ _=>rfl) (fun t r2 h=>?_)
  have h2:=(bP h1 h).1
  refine (bZ h2 [91]).jr (fun _ _=>rfl) (fun _ r3 h=>?_)
  have h3:=(aB h2 (dJ h)).1
  refine (Jf h3).jr (fun _ _=>rfl) (fun n r4 h=>?_)
  have h4:=Iz h3 h
  refine (bZ h4 [93]).jr (fun _ _=>rfl) (fun _ r5 h=>?_)
  have h5:=(aB h4 (dJ h)).1
  exact uN h5 [59] _
def gV (f:Nat) (ts:List Tok):Except aY (Item×List Tok):=if isT [118,97,114] ts=true then dO ts else dU f ts
theorem EE {f:Nat} {ts:List Tok} (he:ah ts):jA (gV f) ts:=by
 have key:∀ {P Q:List Tok→Except aY (Item×List Tok)},jA Q ts→(∀ ts',ts'.head? = ts.head?→P ts'=Q ts')→jA P ts:=by
  intro P Q h hP
  rcases h with e1 | ⟨pre,t,post,e,e1,e2,e3⟩ | ⟨x,c,r,e0,e1,e2⟩
  ·exact .out (by rw [hP _ rfl,e1])
  ·exact .err pre t post e e1 e2 (fun post'=>by rw [hP _ (by rw [e1]; exact iB _ _ _ _),e3])
  ·exact .ok x c r e0 e1 (fun r'=>by rw [hP _ (by rw [e1]; exact head_ne e0 _ _),e2])
 by_cases hi:isT [118,97,114] ts=true
 ·exact key (Cf he) (fun ts' h=>by unfold gV; rw [dZ h,if_pos hi])
 ·exact key (DZ (f:=f) he) (fun ts' h=>by unfold gV; rw [dZ h,if_neg hi])
theorem tq {f:Nat} {ts r:List Tok} {x:Item} (he:ah ts) (h:gV f ts=.ok (x,r)):ah r∧r.length<ts.length:=by
 unfold gV at h
 split at h
 ·exact xZ he h
 ·exact Ap he h
theorem jc (f:Nat) (acc:List Item) (ts:List Tok) (hk:aj ts≠5):partsS (f+1) acc ts=match gV f ts with
  | .error e=>.error e
  | .ok (x,ts1)=>partsS f (acc ++ [x]) ts1:=by
 conv=>lhs; unfold partsS
 rw [if_neg hk]
 unfold gV
 cases (if isT [118,97,114] ts=true then dO ts else dU f ts) <;> rfl
inductive Bb {α:Type} (P:List Tok→Except aY α) (ts:List Tok):Prop
 | out:P ts=.error aI→Bb P ts
 | err (pre:List Tok) (t:Tok) (post:List Tok) (e:Int):ts=pre ++ t :: post→(e=140∨(e=141∧t.kind≠5))→(∀ post',P (pre ++ t :: post')=.error (t.at',e))→Bb P ts
 | ok (x:α):P ts=.ok x→Bb P ts
theorem vM:∀ (f:Nat) (acc:List Item) (ts:List Tok),ah ts→Bb (partsS f acc) ts
 | 0,_,_,_=>.out (by unfold partsS; rfl)
 | f+1,acc,ts,he=>by
  by_cases hk:aj ts=5
  ·exact .ok acc (by unfold partsS; rw [if_pos hk])
  ·rcases EE (f:=f) he with e1 | ⟨pre,t,post,e,e1,e2,e3⟩ | ⟨x,c,r,e0,e1,e2⟩
   ·exact .out (by rw [jc f acc ts hk,e1])
   ·refine .err pre t post e e1 e2 (fun post'=>?_)
    rw [jc f acc _ (by rw [jb (b:=ts) (by rw [e1]; exact iB _ _ _ _)]; exact hk),e3]
   ·have hr:ah r:=(tq he (by rw [e1]; exact e2 r)).1
    rcases vM f (acc ++ [x]) r hr with f1 | ⟨pre,t,post,e,f1,f2,f3⟩ | ⟨y,f1⟩
    ·exact .out (by rw [jc f acc ts hk,e1,e2]; exact f1)
    ·refine .err (c ++ pre) t post e (by rw [e1,f1,List.append_assoc]) f2 (fun post'=>?_)
     rw [List.append_assoc,jc f acc _ (by rw [jb (b:=ts) (by rw [e1]; exact head_ne e0 _ _)]; exact hk),e2]
     exact f3 post'
    ·exact .ok y (by rw [jc f acc ts hk,e1,e2]; exact f1)
theorem oN:∀ (N:Nat),(∀ x:Item,sizeI x≤N→fI Eq x x)∧(∀ l:List Item,sizeL l≤N→ic Eq l l)
 | 0=>⟨fun x h=>by have:=aW x; omega,fun l h=>by
   cases l with
   | nil=>exact .nil
   | cons x r=>have:=aW x; simp only [sizeL] at h; omega⟩
 | N+1=>by
  obtain ⟨h1,h2⟩:=oN N
  have a:∀ x:Item,sizeI x≤N+1→fI Eq x x:=by
   intro x h
   cases x with
   | mk k t n a ks=>exact .mk _ _ _ _ _ _ _ rfl (h2 ks (by simp only [sizeI] at h; omega))
  refine⟨a,fun l h=>?_⟩
  cases l with
  | nil=>exact .nil
  | cons x r =>
   have:=aW x
   simp only [sizeL] at h
   exact .cons _ _ _ _ (a x (by omega)) (h2 r (by omega))
mutual
theorem Jb:∀ {x y:Item},fI Eq x y→x=y
 | _,_,.mk _ _ _ _ _ _ _ h h2=>by rw [h,tH h2]
theorem tH:∀ {x y:List Item},ic Eq x y→x=y
 | _,_,.nil=>rfl
 | _,_,.cons _ _ _ _ h h2=>by rw [Jb h,tH h2]
end
def diag (ts:List Tok):Z:=ts.map (fun t=>(t,t))
theorem Ec (ts:List Tok):Z.l (diag ts)=ts:=by simp [Z.l,diag,Function.comp_def]
theorem JY (ts:List Tok):Z.r (diag ts)=ts:=by simp [Z.r,diag,Function.comp_def]
theorem Jl (ts:List Tok):ZS Eq (diag ts):=by
 intro p hp
 simp only [diag,List.mem_map] at hp
 obtain ⟨t,_,rfl⟩:=hp
 exact⟨rfl,rfl⟩
theorem q9 {f g:Nat} {acc:List Item} {ts:List Tok} (hg:f≤g) (he:ah ts) (h:partsS f acc ts≠.error aI):partsS g acc ts=partsS f acc ts:=by
 have:=uZ (S:=Eq) f g acc acc (diag ts) hg (Jl ts) (by rw [Ec]; exact he) ((oN (sizeL acc)).2 acc (Nat.le_refl _))
 rw [Ec,JY] at this
 rcases this with e1 | ⟨p,e,q,e1,e2,e3⟩ | ⟨x,y,e1,e2,e3⟩
 ·exact absurd e1 h
 ·rw [e1,e2,e3]
 ·rw [e1,e2,tH e3]
def JN (ts:List Tok):Prop:=ts.Pairwise (fun a b=>a.at'<b.at')
theorem BK {a b c d:List Tok} {t u:Tok} (h:JN (a ++ t :: b)) (e:a ++ t :: b=c ++ u :: d) (ht:t.at'=u.at'):a=c∧t=u:=by
 induction a generalizing c with
 | nil =>
  cases c with
  | nil=>injection e with e _; exact⟨rfl,e⟩
  | cons x c =>
   rw [List.nil_append,List.cons_append] at e
   injection e with e1 e2
   rw [List.nil_append] at h
   have:=(List.pairwise_cons.1 h).1 u (by rw [e2]; simp)
   omega
 | cons x a ih =>
  cases c with
  | nil =>
   rw [List.nil_append,List.cons_append] at e
   injection e with e1 e2
   have:=(List.pairwise_cons.1 h).1 t (by simp)
   rw [e1] at this
   omega
  | cons y c =>
   rw [List.cons_append,List.cons_append] at e
   injection e with e1 e2
   obtain ⟨i1,i2⟩:=ih (List.pairwise_cons.1 h).2 e2
   exact⟨by rw [e1,i1],i2⟩
theorem mZ {ts:List Tok} {q:aY}:progS ts=.error q↔partsS (16*ts.length+16) [] ts=.error q:=by
 unfold progS
 cases hq:partsS (16*ts.length+16) [] ts with
 | error q'=>simp
 | ok l=>simp
theorem Fs {ts:List Tok} {p:Nat} {e:Int} (he:ah ts) (hs:JN ts) (h:progS ts=.error (p,e)) :
  ∃ pre t post,ts=pre ++ t :: post∧t.at'=p∧(e=140∨(e=141∧t.kind≠5))∧(∀ post',ah (pre ++ t :: post')→progS (pre ++ t :: post')=.error (p,e)):=by
 have hF:=uU he
 have hp:=mZ.1 h
 have hne:(p,e)≠aI:=by intro hc; rw [hc] at h; exact hF h
 have up:∀ g,16*ts.length+16≤g→partsS g [] ts=.error (p,e):=fun g hg=>by
  rw [q9 hg he (by rw [hp]; intro hc; injection hc with hc; exact hne hc),hp]
 have loc:∀ g,16*ts.length+16≤g→∃ pre t post,ts=pre ++ t :: post∧t.at'=p∧(e=140∨(e=141∧t.kind≠5))∧(∀ post',partsS g [] (pre ++ t :: post')=.error (p,e)):=by
  intro g hg
  rcases vM g [] ts he with e1 | ⟨pre,t,post,e',e1,e2,e3⟩ | ⟨x,e1⟩
  ·rw [up g hg] at e1; injection e1 with e1; exact absurd e1 hne
  ·have:=e3 post
   rw [← e1,up g hg] at this
   injection this with this
   injection this with a b
   subst a b
   exact⟨pre,t,post,e1,rfl,e2,e3⟩
  ·rw [up g hg] at e1; cases e1
 obtain ⟨pre,t,post,e1,e2,e3,_⟩:=loc _ (Nat.le_refl _)
 refine⟨pre,t,post,e1,e2,e3,fun post' he'=>?_⟩
 obtain ⟨pre2,t2,post2,f1,f2,_,f4⟩:=loc (16*ts.length+16+(16*(pre ++ t :: post').length+16)) (by omega)
 obtain ⟨rfl,rfl⟩:=BK (by rw [← e1]; exact hs) (e1.symm.trans f1) (by rw [e2,f2])
 have:=f4 post'
 rw [mZ,← this]
 refine (q9 (by omega) he' ?_).symm
 intro hc
 exact uU he' (mZ.2 hc)
end Go.Proofs.YtkkeocnnecegbaaGreatDoor
namespace Go.Proofs.YtkkeocnnecegbaaGreatDoor
structure GN where
 kind:Nat
 text:List UInt8
 n:Int
 at':Int
 kids:List Int
def gn (m:vY):GN:=⟨m.kind,m.text,m.n,m.at',m.kids.map (fun k:Nat=>(k:Int))⟩
def iP (a b:GN):Prop:=a.kind=b.kind∧a.text=b.text∧a.n=b.n∧a.kids=b.kids
instance (a b:GN):Decidable (iP a b):=by unfold iP; exact inferInstance
def iE (a b:List GN):Prop:=a.length=b.length∧∀ (i:Nat) x y,a[i]? = some x→b[i]? = some y→iP x y
theorem BD (a:GN):iP a a:=⟨rfl,rfl,rfl,rfl⟩
theorem Bi (a:List GN):iE a a:=⟨rfl,fun i x y h1 h2=>by rw [h1] at h2; injection h2 with h2; subst h2; exact BD x⟩
def behindG (T:List GN):Nat→Nat→Option Nat
 | 0,_=>none
 | f+1,i=>match T[i]? with
  | none=>none
  | some g=>g.kids.foldlM (fun (next:Nat) (k:Int)=>if k=(next:Int)∧next<T.length then behindG T f next else none) (i+1)
mutual
def AtI (T:List GN):Nat→Item→Prop
 | i,.mk k t n _ ks=>(∃ a,T[i]? = some ⟨k,t,n,a,(offs (i+1) ks).map (fun k:Nat=>(k:Int))⟩)∧AtL T (i+1) ks
def AtL (T:List GN):Nat→List Item→Prop
 | _,[]=>True
 | i,x :: r=>AtI T i x∧AtL T (i+sizeI x) r
end
theorem AtI.lt {T:List GN} {i:Nat} {x:Item} (h:AtI T i x):i<T.length:=by
 obtain ⟨k,t,n,a,ks⟩:=x
 obtain ⟨⟨_,h⟩,_⟩:=h
 exact (List.getElem?_eq_some_iff.1 h).1
theorem ni {T:List GN}:∀ (f i e:Nat),behindG T f i=some e→∃ x,AtI T i x∧e=i+sizeI x
 | 0,i,e,h=>by unfold behindG at h; cases h
 | f+1,i,e,h=>by
  unfold behindG at h
  cases hg:T[i]? with
  | none=>rw [hg] at h; cases h
  | some g =>
   rw [hg] at h
   simp only at h
   have key:∀ (ks:List Int) (next e:Nat),ks.foldlM (fun (next:Nat) (k:Int)=>if k=(next:Int)∧next<T.length then behindG T f next else none) next=some e→∃ l,AtL T next l∧ks=(offs next l).map (fun k:Nat=>(k:Int))∧e=next+sizeL l:=by
    intro ks
    induction ks with
    | nil=>intro next e h; simp at h; exact⟨[],trivial,rfl,by simp [sizeL,h]⟩
    | cons k r ih =>
     intro next e h
     rw [List.foldlM_cons] at h
     by_cases hk:k=(next:Int)∧next<T.length
     ·rw [if_pos hk] at h
      cases hb:behindG T f next with
      | none=>rw [hb] at h; cases h
      | some nx =>
       rw [hb] at h
       obtain ⟨x,hx1,hx2⟩:=ni f next nx hb
       obtain ⟨l,hl1,hl2,hl3⟩:=ih nx e h
       subst hx2
       refine⟨x :: l,⟨hx1,hl1⟩,?_,?_⟩
       ·simp only [offs,List.map_cons]; rw [← hl2,hk.1]
       ·simp only [sizeL]; omega
     ·rw [if_neg hk] at h; cases h
   obtain ⟨l,h1,h2,h3⟩:=key g.kids (i+1) e h
   refine⟨.mk g.kind g.text g.n 0 l,⟨⟨g.at',by rw [hg,← h2]⟩,h1⟩,?_⟩
   simp only [sizeI]; omega
theorem qA {T:List GN}:∀ (f i:Nat) (x:Item),AtI T i x→sizeI x≤f→behindG T f i=some (i+sizeI x)
 | 0,i,x,h,hf=>by have:=aW x; omega
 | f+1,i,.mk k t n a ks,h,hf=>by
  obtain ⟨⟨a',h1⟩,h2⟩:=h
  unfold behindG
  rw [h1]
  simp only
  have key:∀ (l:List Item) (next:Nat),AtL T next l→sizeL l≤f→((offs next l).map (fun k:Nat=>(k:Int))).foldlM (fun (next:Nat) (k:Int)=>if k=(next:Int)∧next<T.length then behindG T f next else none) next=some (next+sizeL l):=by
   intro l
   induction l with
   | nil=>intro next _ _; simp [offs,sizeL]
   | cons x r ih =>
    intro next h hs
    simp only [sizeL] at hs
    simp only [offs,List.map_cons,List.foldlM_cons]
    rw [if_pos ⟨trivial,h.1.lt⟩,qA f next x h.1 (by omega)]
    show List.foldlM _ (next+sizeI x) _=_
    rw [ih (next+sizeI x) h.2 (by omega)]
    simp only [sizeL,Nat.add_assoc]
  simp only [sizeI] at hf ⊢
  rw [key ks (i+1) h2 (by omega)]
  congr 1; omega
mutual
theorem zP (T p q:List GN):∀ (x:Item),T=p ++ (flat p.length x).map gn ++ q→AtI T p.length x
 | .mk k t n a ks,h=>by
  simp only [flat,List.map_cons] at h
  refine⟨⟨a,?_⟩,?_⟩
  ·rw [h]
   rw [List.append_assoc,List.getElem?_append_right (Nat.le_refl _),Nat.sub_self]
   rfl
  ·have:=xg T (p ++ [gn ⟨k,t,n,a,offs (p.length+1) ks⟩]) q ks (by rw [h]; simp)
   simpa using this
theorem xg (T p q:List GN):∀ (l:List Item),T=p ++ (eQ p.length l).map gn ++ q→AtL T p.length l
 | [],_=>trivial
 | x :: r,h=>by
  simp only [eQ,List.map_append] at h
  refine⟨zP T p ((eQ (p.length+sizeI x) r).map gn ++ q) x (by rw [h]; simp),?_⟩
  have:=xg T (p ++ (flat p.length x).map gn) q r (by rw [h]; simp [iK])
  simpa [iK] using this
end
theorem oo (x:Item):AtI ((flat 0 x).map gn) 0 x:=zP _ [] [] x (by simp)
mutual
theorem z8 {T U:List GN}:∀ {x y:Item} {i:Nat},AtI T i x→AtI U i y→erase x=erase y→∀ j,i≤j→j<i+sizeI x→∃ a b,T[j]? = some a∧U[j]? = some b∧iP a b
 | .mk k t n a ks,.mk k' t' n' a' ks',i,h,h',e,j,h1,h2=>by
  simp only [erase,Item.mk.injEq] at e
  obtain ⟨rfl,rfl,rfl,_,e⟩:=e
  obtain ⟨⟨p,hp⟩,hl⟩:=h
  obtain ⟨⟨p',hp'⟩,hl'⟩:=h'
  have ho:=sH e (i+1)
  by_cases hj:j=i
  ·subst hj
   exact⟨_,_,hp,hp',rfl,rfl,rfl,by rw [ho]⟩
  ·exact yx hl hl' e j (by omega) (by simp only [sizeI] at h2; omega)
theorem yx {T U:List GN}:∀ {l m:List Item} {i:Nat},AtL T i l→AtL U i m→av l=av m→∀ j,i≤j→j<i+sizeL l→∃ a b,T[j]? = some a∧U[j]? = some b∧iP a b
 | [],_,i,_,_,_,j,h1,h2=>by simp only [sizeL] at h2; omega
 | x :: r,[],i,_,_,e,j,h1,h2=>by simp [av] at e
 | x :: r,y :: s,i,h,h',e,j,h1,h2=>by
  simp only [av,List.cons.injEq] at e
  have hs:=size_erase e.1
  by_cases hj:j<i+sizeI x
  ·exact z8 h.1 h'.1 e.1 j h1 hj
  ·have k:=h'.2
   rw [← hs] at k
   exact yx h.2 k e.2 j (by omega) (by simp only [sizeL] at h2; omega)
theorem sH:∀ {l m:List Item},av l=av m→∀ o,offs o l=offs o m
 | [],[],_,o=>rfl
 | [],y :: s,e,o=>by simp [av] at e
 | x :: r,[],e,o=>by simp [av] at e
 | x :: r,y :: s,e,o=>by
  simp only [av,List.cons.injEq] at e
  simp only [offs]
  rw [size_erase e.1,sH e.2]
theorem size_erase:∀ {x y:Item},erase x=erase y→sizeI x=sizeI y
 | .mk k t n a ks,.mk k' t' n' a' ks',e=>by
  simp only [erase,Item.mk.injEq] at e
  simp only [sizeI]; rw [qD e.2.2.2.2]
theorem qD:∀ {l m:List Item},av l=av m→sizeL l=sizeL m
 | [],[],_=>rfl
 | [],y :: s,e=>by simp [av] at e
 | x :: r,[],e=>by simp [av] at e
 | x :: r,y :: s,e=>by
  simp only [av,List.cons.injEq] at e
  simp only [sizeL]
  rw [size_erase e.1,qD e.2]
end
mutual
theorem sS {T U:List GN} (h:iE T U):∀ {x y:Item} {i:Nat},AtI T i x→AtI U i y→erase x=erase y
 | .mk k t n a ks,.mk k' t' n' a' ks',i,h1,h2=>by
  obtain ⟨⟨p,hp⟩,hl⟩:=h1
  obtain ⟨⟨p',hp'⟩,hl'⟩:=h2
  obtain ⟨e1,e2,e3,e4⟩:=h.2 i _ _ hp hp'
  simp only at e1 e2 e3 e4
  subst e1 e2 e3
  simp only [erase,Item.mk.injEq,true_and]
  exact wS h (by
   have:=congrArg (List.map Int.toNat) e4
   simpa [Function.comp_def] using this) hl hl'
theorem wS {T U:List GN} (h:iE T U):∀ {l m:List Item} {i:Nat},offs i l=offs i m→AtL T i l→AtL U i m→av l=av m
 | [],[],_,_,_,_=>rfl
 | [],y :: s,_,e,_,_=>by simp [offs] at e
 | x :: r,[],_,e,_,_=>by simp [offs] at e
 | x :: r,y :: s,i,e,h1,h2=>by
  have e1:=sS h h1.1 h2.1
  simp only [av,e1,List.cons.injEq,true_and]
  have hs:=size_erase e1
  simp only [offs,List.cons.injEq,true_and] at e
  have k:=h2.2
  rw [← hs] at k e
  exact wS h e h1.2 k
end
theorem wR {T U:List GN} {x y:Item} (h:AtI T 0 x) (h':AtI U 0 y) (e:erase x=erase y) (hT:T.length=sizeI x) (hU:U.length=sizeI y):iE T U:=by
 refine⟨by rw [hT,hU,size_erase e],fun i a b h1 h2=>?_⟩
 obtain ⟨a',b',e1,e2,e3⟩:=z8 h h' e i (Nat.zero_le _) (by have:=(List.getElem?_eq_some_iff.1 h1).1; omega)
 rw [h1] at e1; rw [h2] at e2
 injection e1 with e1; injection e2 with e2
 subst e1 e2; exact e3
end Go.Proofs.YtkkeocnnecegbaaGreatDoor
namespace Go.Proofs.YtkkeocnnecegbaaGreatDoor
def ng (k:Nat):Bool:=k == 2 || k == 3
def nz (k:Nat):Bool:=decide (6≤k) && decide (k≤15)
def bG (k:Nat):Bool:=decide (17≤k) && decide (k≤21)
def fitsK (k:Nat) (l:List Nat):Bool :=
 if k=1 then l.all ng
 else if k=3 then (l.getLast? == some 5) && l.dropLast.all (· == 4)
 else if k=5 then l.all nz
 else if k=6∨k=7∨k=11∨k=12∨k=13∨k=19∨k=20 then (match l with | [a]=>bG a | _=>false)
 else if k=8∨k=21 then (match l with | [a,b]=>bG a && bG b | _=>false)
 else if k=9 then (match l with | [a,b]=>bG a && b == 5 | [a,b,c]=>bG a && b == 5 && c == 5 | _=>false)
 else if k=10 then (match l with | [a,b]=>bG a && b == 5 | _=>false)
 else if k=15 then (match l with | c :: r=>c == 16 && r.all bG | []=>false)
 else l.isEmpty
def bq (k:Nat):Int:=if k=2∨k=17 then 2147483647 else if k=20 then 2 else if k=21 then 14 else 0
def okN (k:Nat) (t:List UInt8) (n:Int) (l:List Nat):Bool :=
 (gX t == named k) && (named k || t.isEmpty) && decide (0≤n) && decide (n≤bq k) && (decide (k<20) || decide (0<n)) && decide (1≤k) && decide (k≤21) && fitsK k l
mutual
def ShapedI:Item→Prop
 | .mk k t n _ ks=>okN k t n (ks.map aK)=true∧ShapedL ks
def ShapedL:List Item→Prop
 | []=>True
 | x :: r=>ShapedI x∧ShapedL r
end
theorem kL {l:List Item} (h:ShapedL l):∀ x∈l,ShapedI x:=by
 induction l with
 | nil=>intro x hx; cases hx
 | cons y r ih =>
  intro x hx
  rcases List.mem_cons.1 hx with rfl | hx
  ·exact h.1
  ·exact ih h.2 x hx
theorem nZ {l:List Item} (h:∀ x∈l,ShapedI x):ShapedL l:=by
 induction l with
 | nil=>trivial
 | cons y r ih=>exact⟨h y (by simp),ih (fun x hx=>h x (by simp [hx]))⟩
theorem fT {l:List Item} (h:eH l):∀ x∈l,bz x:=by
 induction l with
 | nil=>intro x hx; cases hx
 | cons y r ih =>
  intro x hx
  rcases List.mem_cons.1 hx with rfl | hx
  ·exact h.1
  ·exact ih h.2 x hx
theorem wC {l:List Item} (h:∀ x∈l,bz x):eH l:=by
 induction l with
 | nil=>trivial
 | cons y r ih=>exact⟨h y (by simp),ih (fun x hx=>h x (by simp [hx]))⟩
structure OkN (k:Nat) (t:List UInt8) (n:Int) (l:List Nat):Prop where
 name:gX t=named k
 text:named k=true∨t=[]
 lo:0≤n
 hi:n≤bq k
 pos:k<20∨0<n
 k1:1≤k
 k2:k≤21
 fit:fitsK k l=true
theorem jG {k:Nat} {t:List UInt8} {n:Int} {l:List Nat}:okN k t n l=true↔OkN k t n l:=by
 unfold okN
 simp only [Bool.and_eq_true,Bool.or_eq_true,decide_eq_true_eq,beq_iff_eq,List.isEmpty_iff]
 constructor
 ·rintro ⟨⟨⟨⟨⟨⟨⟨a,b⟩,c⟩,d⟩,e⟩,f⟩,g⟩,h⟩; exact⟨a,b,c,d,e,f,g,h⟩
 ·rintro ⟨a,b,c,d,e,f,g,h⟩; exact⟨⟨⟨⟨⟨⟨⟨a,b⟩,c⟩,d⟩,e⟩,f⟩,g⟩,h⟩
theorem GQ (k:Nat):bq k≤2147483647:=by unfold bq; split <;> (try split) <;> (try split) <;> omega
mutual
theorem qx:∀ {x:Item},ShapedI x→bz x
 | .mk k t n a ks,h=>by
  have o:=jG.1 h.1
  exact⟨fun hn=>by rw [o.name]; exact hn,⟨o.lo,by have:=o.hi; have:=GQ k; omega⟩,oV h.2⟩
theorem oV:∀ {l:List Item},ShapedL l→eH l
 | [],_=>trivial
 | _x :: _r,h=>⟨qx h.1,oV h.2⟩
end
theorem FY {k:Nat}:bG k=true↔17≤k∧k≤21:=by simp [bG]
theorem Hz {k:Nat}:nz k=true↔6≤k∧k≤15:=by simp [nz]
theorem FR {k:Nat}:ng k=true↔k=2∨k=3:=by simp [ng]
theorem qY {l:List Item} {a:Nat} (h:l.map aK=[a]):∃ x,l=[x]∧aK x=a:=by
 match l,h with
 | [x],h=>simp at h; exact⟨x,rfl,h⟩
theorem CK {l:List Item} {a b:Nat} (h:l.map aK=[a,b]):∃ x y,l=[x,y]∧aK x=a∧aK y=b:=by
 match l,h with
 | [x,y],h=>simp at h; exact⟨x,y,rfl,h.1,h.2⟩
theorem KT {l:List Item} {a b c:Nat} (h:l.map aK=[a,b,c]):∃ x y z,l=[x,y,z]∧aK x=a∧aK y=b∧aK z=c:=by
 match l,h with
 | [x,y,z],h=>simp at h; exact⟨x,y,z,rfl,h.1,h.2.1,h.2.2⟩
theorem qK {l:List Nat} (h:(match l with | [a]=>bG a | _=>false)=true):∃ a,l=[a]∧bG a=true:=by
 match l,h with
 | [a],h=>exact⟨a,rfl,h⟩
theorem JX {l:List Nat} (h:(match l with | [a,b]=>bG a && bG b | _=>false)=true):∃ a b,l=[a,b]∧bG a=true∧bG b=true:=by
 match l,h with
 | [a,b],h=>simp only [Bool.and_eq_true] at h; exact⟨a,b,rfl,h.1,h.2⟩
theorem vL:∀ (N:Nat) (x:Item),sizeI x≤N→ShapedI x→bG (aK x)=true→WX x
 | 0,x,hs,_,_=>by have:=aW x; omega
 | N+1,.mk k t n a ks,hs,h,hk=>by
  have o:=jG.1 h.1
  have hkk:17≤k∧k≤21:=FY.1 hk
  have ih:=vL N
  have hF:=o.fit
  have hL:=kL h.2
  simp only [sizeI] at hs
  have hkid:∀ x∈ks,sizeI x≤N:=fun x hx=>by have:=iR hx; omega
  have h5:k=17∨k=18∨k=19∨k=20∨k=21:=by omega
  rcases h5 with rfl | rfl | rfl | rfl | rfl
  ·have hT:=o.text
   simp [fitsK] at hF
   simp [named] at hT
   exact⟨hT,hF⟩
  ·simp [fitsK] at hF
   have h2:=o.hi; have h3:=o.lo
   simp [bq] at h2
   exact⟨by omega,hF⟩
  ·have h1:(match ks.map aK with | [a]=>bG a | _=>false)=true:=hF
   obtain ⟨b,e1,e2⟩:=qK h1
   obtain ⟨x,rfl,e3⟩:=qY e1
   have h2:=o.hi; have h3:=o.lo
   simp [bq] at h2
   exact⟨by omega,ih x (hkid x (by simp)) (hL x (by simp)) (by rw [e3]; exact e2)⟩
  ·have h1:(match ks.map aK with | [a]=>bG a | _=>false)=true:=hF
   obtain ⟨b,e1,e2⟩:=qK h1
   obtain ⟨x,rfl,e3⟩:=qY e1
   have hT:=o.text
   simp [named] at hT
   have h2:=o.hi; have h3:=o.pos
   simp [bq] at h2
   exact⟨hT,by omega,ih x (hkid x (by simp)) (hL x (by simp)) (by rw [e3]; exact e2)⟩
  ·have h1:(match ks.map aK with | [a,b]=>bG a && bG b | _=>false)=true:=hF
   obtain ⟨b,c,e1,e2,e4⟩:=JX h1
   obtain ⟨x,y,rfl,e3,e5⟩:=CK e1
   have hT:=o.text
   simp [named] at hT
   have h2:=o.hi; have h3:=o.pos
   simp [bq] at h2
   exact⟨hT,by omega,ih x (hkid x (by simp)) (hL x (by simp)) (by rw [e3]; exact e2),ih y (hkid y (by simp)) (hL y (by simp)) (by rw [e5]; exact e4)⟩
theorem jY {x:Item} (h:ShapedI x) (hk:bG (aK x)=true):WX x:=vL _ x (Nat.le_refl _) h hk
theorem zZ:∀ {l:List Item},ShapedL l→(l.map aK).all bG=true→WXs l
 | [],_,_=>trivial
 | x :: r,h,hk=>by
  simp only [List.map_cons,List.all_cons,Bool.and_eq_true] at hk
  exact⟨jY h.1 hk.1,zZ h.2 hk.2⟩
theorem uT:∀ (N:Nat) (x:Item),sizeI x≤N→ShapedI x→(nz (aK x)=true→WS true x)∧(aK x=5→WS false x)
 | 0,x,hs,_=>by have:=aW x; omega
 | N+1,.mk k t n a ks,hs,h=>by
  have o:=jG.1 h.1
  have ih:=uT N
  have hF:=o.fit
  have hL:=kL h.2
  simp only [sizeI] at hs
  have hkid:∀ x∈ks,sizeI x≤N:=fun x hx=>by have:=iR hx; omega
  have hT:=o.text
  have h2:=o.hi
  have h3:=o.lo
  refine⟨fun hk=>?_,fun hk=>?_⟩
  ·have hkk:6≤k∧k≤15:=Hz.1 hk
   have h10:k=6∨k=7∨k=8∨k=9∨k=10∨k=11∨k=12∨k=13∨k=14∨k=15:=by omega
   rcases h10 with rfl | rfl | rfl | rfl | rfl | rfl | rfl | rfl | rfl | rfl
   ·simp [bq] at h2
    obtain rfl:n=0:=by omega
    have h1:(match ks.map aK with | [a]=>bG a | _=>false)=true:=hF
    obtain ⟨b,e1,e2⟩:=qK h1
    obtain ⟨x,rfl,e3⟩:=qY e1
    exact .declare t a x (jY (hL x (by simp)) (by rw [e3]; exact e2))
   ·simp [bq] at h2
    obtain rfl:n=0:=by omega
    have h1:(match ks.map aK with | [a]=>bG a | _=>false)=true:=hF
    obtain ⟨b,e1,e2⟩:=qK h1
    obtain ⟨x,rfl,e3⟩:=qY e1
    exact .assign t a x (jY (hL x (by simp)) (by rw [e3]; exact e2))
   ·simp [bq] at h2
    obtain rfl:n=0:=by omega
    have h1:(match ks.map aK with | [a,b]=>bG a && bG b | _=>false)=true:=hF
    obtain ⟨b,c,e1,e2,e4⟩:=JX h1
    obtain ⟨x,y,rfl,e3,e5⟩:=CK e1
    exact .store t a x y (jY (hL x (by simp)) (by rw [e3]; exact e2)) (jY (hL y (by simp)) (by rw [e5]; exact e4))
   ·simp [bq] at h2
    obtain rfl:n=0:=by omega
    simp [named] at hT
    subst hT
    have h1:(match ks.map aK with | [a,b]=>bG a && b == 5 | [a,b,c]=>bG a && b == 5 && c == 5 | _=>false)=true:=hF
    match hm:ks.map aK,h1 with
    | [b,c],h1 =>
     obtain ⟨x,y,rfl,e3,e5⟩:=CK hm
     have h1:(bG (aK x) && aK y == 5)=true:=h1
     simp only [Bool.and_eq_true,beq_iff_eq] at h1
     exact .if1 a x y (jY (hL x (by simp)) h1.1) ((ih y (hkid y (by simp)) (hL y (by simp))).2 h1.2)
    | [b,c,d],h1 =>
     obtain ⟨x,y,z,rfl,e3,e5,e6⟩:=KT hm
     have h1:(bG (aK x) && aK y == 5 && aK z == 5)=true:=h1
     simp only [Bool.and_eq_true,beq_iff_eq] at h1
     exact .if2 a x y z (jY (hL x (by simp)) h1.1.1) ((ih y (hkid y (by simp)) (hL y (by simp))).2 h1.1.2) ((ih z (hkid z (by simp)) (hL z (by simp))).2 h1.2)
   ·simp [bq] at h2
    obtain rfl:n=0:=by omega
    simp [named] at hT
    subst hT
    have h1:(match ks.map aK with | [a,b]=>bG a && b == 5 | _=>false)=true:=hF
    match hm:ks.map aK,h1 with
    | [b,c],h1 =>
     obtain ⟨x,y,rfl,e3,e5⟩:=CK hm
     have h1:(bG (aK x) && aK y == 5)=true:=h1
     simp only [Bool.and_eq_true,beq_iff_eq] at h1
     exact .for1 a x y (jY (hL x (by simp)) h1.1) ((ih y (hkid y (by simp)) (hL y (by simp))).2 h1.2)
   ·simp [bq] at h2
    obtain rfl:n=0:=by omega
    simp [named] at hT
    subst hT
    have h1:(match ks.map aK with | [a]=>bG a | _=>false)=true:=hF
    obtain ⟨b,e1,e2⟩:=qK h1
    obtain ⟨x,rfl,e3⟩:=qY e1
    exact .ret 11 a x (by omega) (jY (hL x (by simp)) (by rw [e3]; exact e2))
   ·simp [bq] at h2
    obtain rfl:n=0:=by omega
    simp [named] at hT
    subst hT
    have h1:(match ks.map aK with | [a]=>bG a | _=>false)=true:=hF
    obtain ⟨b,e1,e2⟩:=qK h1
    obtain ⟨x,rfl,e3⟩:=qY e1
    exact .ret 12 a x (by omega) (jY (hL x (by simp)) (by rw [e3]; exact e2))
   ·simp [bq] at h2
    obtain rfl:n=0:=by omega
    simp [named] at hT
    subst hT
    have h1:(match ks.map aK with | [a]=>bG a | _=>false)=true:=hF
    obtain ⟨b,e1,e2⟩:=qK h1
    obtain ⟨x,rfl,e3⟩:=qY e1
    exact .ret 13 a x (by omega) (jY (hL x (by simp)) (by rw [e3]; exact e2))
   ·simp [bq] at h2
    obtain rfl:n=0:=by omega
    simp [fitsK] at hF
    subst hF
    exact .read t a
   ·simp [bq] at h2
    obtain rfl:n=0:=by omega
    have h1:(match ks.map aK with | c :: r=>c == 16 && r.all bG | []=>false)=true:=hF
    match ks,h1,hL,h.2 with
    | .mk k' t' n' a' ks' :: l,h1,hL,hh =>
     simp only [List.map_cons,Bool.and_eq_true,beq_iff_eq,aK] at h1
     obtain ⟨rfl,h1⟩:=h1
     have o':=jG.1 (hL (.mk 16 t' n' a' ks') (by simp)).1
     have f':=o'.fit
     have a1:=o'.hi
     have a2:=o'.lo
     simp [fitsK] at f'
     simp [bq] at a1
     obtain rfl:n'=0:=by omega
     subst f'
     exact .call t a t' a' l (zZ hh.2 h1)
  ·have hk:k=5:=hk
   subst hk
   simp [bq] at h2
   obtain rfl:n=0:=by omega
   simp [named] at hT
   subst hT
   have h1:(ks.map aK).all nz=true:=hF
   refine .block a ks (fun x hx=>(ih x (hkid x hx) (hL x hx)).1 ?_)
   exact List.all_eq_true.1 h1 _ (List.mem_map.2 ⟨x,hx,rfl⟩)
theorem Dr {x:Item} (h:ShapedI x) (hk:ng (aK x)=true):WD x:=by
 obtain ⟨k,t,n,a,ks⟩:=x
 have o:=jG.1 h.1
 have hF:=o.fit
 have hL:=kL h.2
 have h2:=o.hi
 have h3:=o.lo
 have hkk:k=2∨k=3:=FR.1 hk
 rcases hkk with rfl | rfl
 ·simp [fitsK] at hF
  subst hF
  exact .array t n a
 ·simp [bq] at h2
  obtain rfl:n=0:=by omega
  have h1:(((ks.map aK).getLast? == some 5) && (ks.map aK).dropLast.all (· == 4))=true:=hF
  simp only [Bool.and_eq_true,beq_iff_eq] at h1
  obtain ⟨h1,h4⟩:=h1
  rcases List.eq_nil_or_concat ks with rfl | ⟨l,b,rfl⟩
  ·simp at h1
  ·rw [List.concat_eq_append] at *
   simp only [List.map_append,List.map_cons,List.map_nil,List.getLast?_append,List.getLast?_singleton,Option.some_or,Option.some.injEq,List.dropLast_concat] at h1 h4
   refine .func t a l b (fun x hx=>?_) ((uT _ b (Nat.le_refl _) (hL b (by simp))).2 h1)
   have hx4:aK x=4:=by simpa using List.all_eq_true.1 h4 _ (List.mem_map.2 ⟨x,hx,rfl⟩)
   have hxs:=hL x (by simp [hx])
   obtain ⟨k',t',n',a',ks'⟩:=x
   have hx4:k'=4:=hx4
   subst hx4
   have o':=jG.1 hxs.1
   have f':=o'.fit
   have a1:=o'.hi
   have a2:=o'.lo
   simp [fitsK] at f'
   simp [bq] at a1
   exact⟨rfl,by omega,f'⟩
theorem C8 {x:Item} (h:ShapedI x) (hk:aK x=1):WP x∧bz x:=by
 refine⟨?_,qx h⟩
 obtain ⟨k,t,n,a,ks⟩:=x
 have hk:k=1:=hk
 subst hk
 have o:=jG.1 h.1
 have hT:=o.text
 have h2:=o.hi
 have h3:=o.lo
 simp [bq] at h2
 simp [named] at hT
 have h1:(ks.map aK).all ng=true:=o.fit
 exact⟨rfl,hT,by omega,fun x hx=>Dr (kL h.2 x hx) (List.all_eq_true.1 h1 _ (List.mem_map.2 ⟨x,hx,rfl⟩))⟩
theorem fH {k:Nat} {t:List UInt8} {n:Int} {l:List Nat} (hn:named k=true→gX t=true) (ht:named k=false→t=[]) (h0:0≤n) (h1:n≤bq k) (h2:k<20∨0<n) (h3:1≤k) (h4:k≤21) (h5:fitsK k l=true):okN k t n l=true:=by
 refine jG.2 ⟨?_,?_,h0,h1,h2,h3,h4,h5⟩
 ·cases hk:named k
  ·rw [ht hk]; rfl
  ·exact hn hk
 ·cases hk:named k
  ·exact Or.inr (ht hk)
  ·exact Or.inl rfl
theorem fU {x:Item} (h:WX x):bG (aK x)=true:=by
 rcases fV h with ⟨_,_,rfl⟩ | ⟨_,_,rfl⟩ | ⟨_,_,_,rfl,_⟩ | ⟨_,_,_,rfl,_⟩ | ⟨_,_,_,_,rfl,_⟩ <;> rfl
theorem uL:∀ (N:Nat) (x:Item),sizeI x≤N→WX x→bz x→ShapedI x
 | 0,x,hs,_,_=>by have:=aW x; omega
 | N+1,.mk k t n a ks,hs,h,hg=>by
  obtain ⟨g1,g2,g3⟩:=hg
  have ih:=uL N
  simp only [sizeI] at hs
  match k,ks,h,g1,g3,hs with
  | 17,ks,h,g1,g3,hs =>
   obtain ⟨rfl,rfl⟩:=h
   exact⟨fH (fun h=>by cases h) (fun _=>rfl) g2.1 (by simpa [bq] using g2.2) (Or.inl (by omega)) (by omega) (by omega) rfl,trivial⟩
  | 18,ks,h,g1,g3,hs =>
   obtain ⟨rfl,rfl⟩:=h
   exact⟨fH g1 (fun h=>by cases h) g2.1 (by simp [bq]) (Or.inl (by omega)) (by omega) (by omega) rfl,trivial⟩
  | 19,[x],h,g1,g3,hs =>
   obtain ⟨rfl,hx⟩:=h
   simp only [sizeL] at hs
   exact⟨fH g1 (fun h=>by cases h) g2.1 (by simp [bq]) (Or.inl (by omega)) (by omega) (by omega) (fU hx),ih x (by omega) hx g3.1,trivial⟩
  | 20,[x],h,g1,g3,hs =>
   obtain ⟨rfl,hn,hx⟩:=h
   simp only [sizeL] at hs
   exact⟨fH (fun h=>by cases h) (fun _=>rfl) g2.1 (by simp [bq]; omega) (Or.inr (by omega)) (by omega) (by omega) (fU hx),ih x (by omega) hx g3.1,trivial⟩
  | 21,[x,y],h,g1,g3,hs =>
   obtain ⟨rfl,hn,hx,hy⟩:=h
   simp only [sizeL] at hs
   refine⟨fH (fun h=>by cases h) (fun _=>rfl) g2.1 (by simp [bq]; omega) (Or.inr (by omega)) (by omega) (by omega) ?_,ih x (by omega) hx g3.1,ih y (by omega) hy g3.2.1,trivial⟩
   show (bG (aK x) && bG (aK y))=true
   rw [fU hx,fU hy]; rfl
theorem lu {x:Item} (h:WX x) (hg:bz x):ShapedI x:=uL _ x (Nat.le_refl _) h hg
theorem Dj:∀ {l:List Item},WXs l→eH l→ShapedL l∧(l.map aK).all bG=true
 | [],_,_=>⟨trivial,rfl⟩
 | x :: r,h,hg=>by
  obtain ⟨h1,h2⟩:=Dj h.2 hg.2
  exact⟨⟨lu h.1 hg.1,h1⟩,by simp only [List.map_cons,List.all_cons,fU h.1,h2]; rfl⟩
theorem lJ {b:Bool} {x:Item} (h:WS b x):(b=true→nz (aK x)=true)∧(b=false→aK x=5):=by
 cases h with
 | block a l hl=>exact⟨fun h=>(by cases h),fun _=>rfl⟩
 | ret k a x hk hx=>exact⟨fun _=>by rcases hk with rfl | rfl | rfl <;> rfl,fun h=>by cases h⟩
 | _=>exact⟨fun _=>rfl,fun h=>by cases h⟩
theorem vJ:∀ (N:Nat) (b:Bool) (x:Item),sizeI x≤N→WS b x→bz x→ShapedI x
 | 0,_,x,hs,_,_=>by have:=aW x; omega
 | N+1,b,x,hs,h,hg=>by
  have ih:=vJ N
  cases h with
  | block a l hl =>
   obtain ⟨g1,g2,g3⟩:=hg
   simp only [sizeI] at hs
   refine⟨fH (fun h=>by cases h) (fun _=>rfl) g2.1 (by simp [bq]) (Or.inl (by omega)) (by omega) (by omega) ?_,?_⟩
   ·show (l.map aK).all nz=true
    rw [List.all_eq_true]
    intro k hk
    obtain ⟨x,hx,rfl⟩:=List.mem_map.1 hk
    exact (lJ (hl x hx)).1 rfl
   ·exact nZ (fun x hx=>ih true x (by have:=iR hx; omega) (hl x hx) (fT g3 x hx))
  | declare t a x hx =>
   obtain ⟨g1,g2,g3⟩:=hg
   exact⟨fH g1 (fun h=>by cases h) g2.1 (by simp [bq]) (Or.inl (by omega)) (by omega) (by omega) (fU hx),lu hx g3.1,trivial⟩
  | assign t a x hx =>
   obtain ⟨g1,g2,g3⟩:=hg
   exact⟨fH g1 (fun h=>by cases h) g2.1 (by simp [bq]) (Or.inl (by omega)) (by omega) (by omega) (fU hx),lu hx g3.1,trivial⟩
  | store t a x y hx hy =>
   obtain ⟨g1,g2,g3⟩:=hg
   refine⟨fH g1 (fun h=>by cases h) g2.1 (by simp [bq]) (Or.inl (by omega)) (by omega) (by omega) ?_,lu hx g3.1,lu hy g3.2.1,trivial⟩
   show (bG (aK x) && bG (aK y))=true
   rw [fU hx,fU hy]; rfl
  | if1 a x c hx hc =>
   obtain ⟨g1,g2,g3⟩:=hg
   simp only [sizeI,sizeL] at hs
   refine⟨fH (fun h=>by cases h) (fun _=>rfl) g2.1 (by simp [bq]) (Or.inl (by omega)) (by omega) (by omega) ?_,lu hx g3.1,ih false c (by omega) hc g3.2.1,trivial⟩
   show (bG (aK x) && aK c == 5)=true
   rw [fU hx,(lJ hc).2 rfl]; rfl
  | if2 a x c d hx hc hd =>
   obtain ⟨g1,g2,g3⟩:=hg
   simp only [sizeI,sizeL] at hs
   refine⟨fH (fun h=>by cases h) (fun _=>rfl) g2.1 (by simp [bq]) (Or.inl (by omega)) (by omega) (by omega) ?_,lu hx g3.1,ih false c (by omega) hc g3.2.1,ih false d (by omega) hd g3.2.2.1,trivial⟩
   show (bG (aK x) && aK c == 5 && aK d == 5)=true
   rw [fU hx,(lJ hc).2 rfl,(lJ hd).2 rfl]; rfl
  | for1 a x c hx hc =>
   obtain ⟨g1,g2,g3⟩:=hg
   simp only [sizeI,sizeL] at hs
   refine⟨fH (fun h=>by cases h) (fun _=>rfl) g2.1 (by simp [bq]) (Or.inl (by omega)) (by omega) (by omega) ?_,lu hx g3.1,ih false c (by omega) hc g3.2.1,trivial⟩
   show (bG (aK x) && aK c == 5)=true
   rw [fU hx,(lJ hc).2 rfl]; rfl
  | ret k a x hk hx =>
   obtain ⟨g1,g2,g3⟩:=hg
   refine⟨fH (fun h=>by rcases hk with rfl | rfl | rfl <;> cases h) (fun _=>rfl) g2.1 (by rcases hk with rfl | rfl | rfl <;> simp [bq]) (Or.inl (by omega)) (by omega) (by omega) ?_,lu hx g3.1,trivial⟩
   have e:bG (aK x)=true:=fU hx
   rcases hk with rfl | rfl | rfl <;> exact e
  | read t a =>
   obtain ⟨g1,g2,g3⟩:=hg
   exact⟨fH g1 (fun h=>by cases h) g2.1 (by simp [bq]) (Or.inl (by omega)) (by omega) (by omega) rfl,trivial⟩
  | call t a u b l hl =>
   obtain ⟨g1,g2,g3⟩:=hg
   obtain ⟨s1,s2⟩:=Dj hl g3.2
   obtain ⟨c1,c2,c3⟩:=g3.1
   refine⟨fH g1 (fun h=>by cases h) g2.1 (by simp [bq]) (Or.inl (by omega)) (by omega) (by omega) ?_,⟨fH c1 (fun h=>by cases h) c2.1 (by simp [bq]) (Or.inl (by omega)) (by omega) (by omega) rfl,trivial⟩,s1⟩
   show ((16:Nat) == 16 && (l.map aK).all bG)=true
   rw [s2]; rfl
theorem KL {b:Bool} {x:Item} (h:WS b x) (hg:bz x):ShapedI x:=vJ _ b x (Nat.le_refl _) h hg
theorem EC {x:Item} (h:WP x) (hg:bz x):ShapedI x∧aK x=1:=by
 obtain ⟨k,t,n,a,ks⟩:=x
 obtain ⟨rfl,rfl,rfl,hl⟩:=h
 obtain ⟨g1,g2,g3⟩:=hg
 have hd:∀ x∈ks,ShapedI x∧ng (aK x)=true:=by
  intro x hx
  have hgx:=fT g3 x hx
  cases hl x hx with
  | array t n a =>
   obtain ⟨g1,g2,g3⟩:=hgx
   exact⟨⟨fH g1 (fun h=>by cases h) g2.1 (by simpa [bq] using g2.2) (Or.inl (by omega)) (by omega) (by omega) rfl,trivial⟩,rfl⟩
  | func t a l b hl hb =>
   obtain ⟨g1,g2,g3⟩:=hgx
   refine⟨⟨fH g1 (fun h=>by cases h) g2.1 (by simp [bq]) (Or.inl (by omega)) (by omega) (by omega) ?_,nZ (fun x hx=>?_)⟩,rfl⟩
   ·show (((l ++ [b]).map aK).getLast? == some 5 && ((l ++ [b]).map aK).dropLast.all (· == 4))=true
    simp only [List.map_append,List.map_cons,List.map_nil,List.getLast?_append,List.getLast?_singleton,Option.some_or,List.dropLast_concat,(lJ hb).2 rfl]
    simp only [Bool.and_eq_true,List.all_eq_true]
    refine⟨rfl,fun k hk=>?_⟩
    obtain ⟨x,hx,rfl⟩:=List.mem_map.1 hk
    have:=hl x hx
    obtain ⟨k',t',n',a',ks'⟩:=x
    obtain ⟨rfl,_,_⟩:=this
    rfl
   ·rcases List.mem_append.1 hx with hx | hx
    ·have h1:=hl x hx
     have hgx:=fT g3 x (by simp [hx])
     obtain ⟨k',t',n',a',ks'⟩:=x
     obtain ⟨rfl,rfl,rfl⟩:=h1
     obtain ⟨g1,g2,g3⟩:=hgx
     exact⟨fH g1 (fun h=>by cases h) g2.1 (by simp [bq]) (Or.inl (by omega)) (by omega) (by omega) rfl,trivial⟩
    ·obtain rfl:x=b:=by simpa using hx
     exact KL hb (fT g3 x (by simp))
 refine⟨⟨fH (fun h=>by cases h) (fun _=>rfl) g2.1 (by simp [bq]) (Or.inl (by omega)) (by omega) (by omega) ?_,nZ (fun x hx=>(hd x hx).1)⟩,rfl⟩
 show (ks.map aK).all ng=true
 rw [List.all_eq_true]
 intro k hk
 obtain ⟨x,hx,rfl⟩:=List.mem_map.1 hk
 exact (hd x hx).2
def kE (T:List GN) (g:GN):List Nat:=g.kids.map (fun k=>((T[k.toNat]?).map (·.kind)).getD 0)
def okG (T:List GN) (g:GN):Bool:=okN g.kind g.text g.n (kE T g)
theorem vw {T:List GN}:∀ {l:List Item} {i:Nat},AtL T i l→((offs i l).map (fun k:Nat=>(k:Int))).map (fun k=>((T[k.toNat]?).map (·.kind)).getD 0)=l.map aK
 | [],_,_=>rfl
 | .mk k t n a ks :: r,i,h=>by
  have ih:=vw h.2
  obtain ⟨⟨_,h1⟩,_⟩:=h.1
  simp only [offs,List.map_cons,aK]
  rw [ih]
  congr 1
  simp only [Int.toNat_natCast,h1]
  rfl
mutual
theorem pE {T:List GN}:∀ {x:Item} {i:Nat},AtI T i x→(ShapedI x↔∀ j g,i≤j→j<i+sizeI x→T[j]? = some g→okG T g=true)
 | .mk k t n a ks,i,h=>by
  have ih:=sM h.2
  obtain ⟨⟨b,h1⟩,h2⟩:=h
  have hk:=vw h2
  constructor
  ·intro hs j g hj1 hj2 hg
   by_cases hj:j=i
   ·subst hj
    rw [h1] at hg; injection hg with hg; subst hg
    unfold okG kE
    simp only
    rw [hk]; exact hs.1
   ·exact ih.1 hs.2 j g (by omega) (by simp only [sizeI] at hj2; omega) hg
  ·intro hs
   refine⟨?_,ih.2 (fun j g hj1 hj2 hg=>hs j g (by omega) (by simp only [sizeI]; omega) hg)⟩
   have:=hs i _ (Nat.le_refl _) (by simp only [sizeI]; omega) h1
   unfold okG kE at this
   simp only at this
   rw [hk] at this; exact this
theorem sM {T:List GN}:∀ {l:List Item} {i:Nat},AtL T i l→(ShapedL l↔∀ j g,i≤j→j<i+sizeL l→T[j]? = some g→okG T g=true)
 | [],i,_=>⟨fun _ j g h1 h2 _=>by simp only [sizeL] at h2; omega,fun _=>trivial⟩
 | x :: r,i,h=>by
  have i1:=pE h.1
  have i2:=sM h.2
  constructor
  ·intro hs j g h1 h2 hg
   by_cases hj:j<i+sizeI x
   ·exact i1.1 hs.1 j g h1 hj hg
   ·exact i2.1 hs.2 j g (by omega) (by simp only [sizeL] at h2; omega) hg
  ·intro hs
   exact⟨i1.2 (fun j g h1 h2 hg=>hs j g h1 (by simp only [sizeL]; omega) hg),i2.2 (fun j g h1 h2 hg=>hs j g (by omega) (by simp only [sizeL]; omega) hg)⟩
end
end Go.Proofs.YtkkeocnnecegbaaGreatDoor
namespace Go.Proofs.YtkkeocnnecegbaaGreatDoor
open Go.RowKit
theorem nK {v:Nat} (h:v<10):Lib.decDigits v=[UInt8.ofNat (48+v)]:=Lib.decDigits_one h
theorem uf {v:Nat} (h:¬ v<10):Lib.decDigits v=Lib.decDigits (v / 10) ++ [UInt8.ofNat (48+v % 10)]:=by
 rw [Lib.decDigits,dif_neg h]
theorem iT (d:Nat) (h:d<10):(UInt8.ofNat (48+d)).toNat=48+d:=by
 rw [UInt8.toNat_ofNat']; omega
theorem ve {M:Nat} {c:UInt8} (hM:M≤2147483647) (h1:48≤c.toNat∧c.toNat≤57):∀ (l:List UInt8) (acc v:Nat),acc≤M→Lib.parseUintM M acc l=.ok v→v*10+(c.toNat - 48)≤M→Lib.parseUintM M acc (l ++ [c])=.ok (v*10+(c.toNat - 48))
 | [],acc,v,ha,h,hv=>by
  simp only [Lib.parseUintM] at h
  injection h with h
  subst h
  simp only [List.nil_append,Lib.parseUintM,if_pos h1]
  rw [if_neg (by omega),if_neg (by omega)]
 | d :: r,acc,v,ha,h,hv=>by
  simp only [Lib.parseUintM] at h
  split at h
  ·rename_i hd
   split at h
   ·cases h
   ·rename_i h2
    split at h
    ·cases h
    ·rename_i h3
     simp only [List.cons_append,Lib.parseUintM,if_pos hd,if_neg h2,if_neg h3]
     exact ve hM h1 r _ v (by omega) h hv
  ·cases h
theorem FI {M:Nat} (hM:M≤2147483647):∀ (N v:Nat),v≤N→v≤M→Lib.parseUintM M 0 (Lib.decDigits v)=.ok v:=by
 intro N
 induction N with
 | zero =>
  intro v h hv
  obtain rfl:v=0:=by omega
  rw [nK (by omega)]
  simp only [Lib.parseUintM]
  rw [iT 0 (by omega),if_pos (by omega),if_neg (by omega),if_neg (by omega)]
 | succ N ih =>
  intro v h hv
  by_cases h9:v<10
  ·rw [nK h9]
   simp only [Lib.parseUintM]
   rw [iT v h9,if_pos (by omega),if_neg (by omega),if_neg (by omega)]
   congr 1; omega
  ·rw [uf h9]
   have hd:=iT (v % 10) (by omega)
   have:=ve (c:=UInt8.ofNat (48+v % 10)) hM (by rw [hd]; omega) (Lib.decDigits (v / 10)) 0 (v / 10) (Nat.zero_le _) (ih (v / 10) (by omega) (by omega)) (by rw [hd]; omega)
   rw [this,hd]
   congr 1; omega
theorem JL:∀ (N v:Nat),v≤N→∀ c∈Lib.decDigits v,48≤c.toNat∧c.toNat≤57:=by
 intro N
 induction N with
 | zero =>
  intro v h c hc
  obtain rfl:v=0:=by omega
  rw [nK (by omega),List.mem_singleton] at hc
  rw [hc,iT 0 (by omega)]; omega
 | succ N ih =>
  intro v h c hc
  by_cases h9:v<10
  ·rw [nK h9,List.mem_singleton] at hc
   rw [hc,iT v h9]; omega
  ·rw [uf h9] at hc
   rcases List.mem_append.1 hc with hc | hc
   ·exact ih (v / 10) (by omega) c hc
   ·rw [List.mem_singleton] at hc
    rw [hc,iT _ (by omega)]; omega
theorem IX:∀ (N v:Nat),v≤N→0<v→∃ c r,Lib.decDigits v=c :: r∧49≤c.toNat:=by
 intro N
 induction N with
 | zero=>intro v h h0; omega
 | succ N ih =>
  intro v h h0
  by_cases h9:v<10
  ·rw [nK h9]
   exact⟨_,_,rfl,by rw [iT v h9]; omega⟩
  ·rw [uf h9]
   obtain ⟨c,r,h1,h2⟩:=ih (v / 10) (by omega) (by omega)
   rw [h1]
   exact⟨c,_,rfl,h2⟩
theorem ET {n:Int} (h0:0≤n) (h1:n≤2147483647):numS (Lib.itoa n)=some n:=by
 obtain ⟨v,rfl⟩:=Int.eq_ofNat_of_zero_le h0
 rw [Lib.itoa_nonneg]
 unfold numS
 rw [FI (Nat.le_refl _) v v (Nat.le_refl _) (by omega)]
 simp only
 rw [if_neg]
 rintro ⟨h2,h3⟩
 by_cases hv:v=0
 ·subst hv
  exact h2 (by rw [nK (by omega)]; rfl)
 ·obtain ⟨c,r,e1,e2⟩:=IX v v (Nat.le_refl _) (by omega)
  rw [e1] at h3
  simp only [List.head?_cons,Option.some.injEq] at h3
  rw [h3] at e2
  exact absurd e2 (by decide)
def kP (x:Tk):Prop:=∃ c r,x.2.1=c :: r∧dQ c=false∧tokAt (c :: r)=.ok (x.1,(c :: r).length,x.2.2)
theorem Al {c:UInt8} (h:48≤c.toNat∧c.toNat≤57):aU c=true:=by
 unfold aU
 simp only [Bool.and_eq_true,decide_eq_true_eq,UInt8.le_iff_toNat_le]
 exact h
theorem Iu {c:UInt8} (h:48≤c.toNat∧c.toNat≤57):isLet c=false:=by
 unfold isLet
 cases hh:(c == 95 || decide (97≤c) && decide (c≤122) || decide (65≤c) && decide (c≤90))
 ·rfl
 ·exfalso
  simp only [Bool.or_eq_true,Bool.and_eq_true,decide_eq_true_eq,UInt8.le_iff_toNat_le,beq_iff_eq] at hh
  have e1:(97:UInt8).toNat=97:=rfl
  have e2:(65:UInt8).toNat=65:=rfl
  rcases hh with (hh | hh) | hh
  ·subst hh; exact absurd h (by decide)
  ·omega
  ·omega
theorem I7 {c:UInt8} (h:48≤c.toNat∧c.toNat≤57):dQ c=false:=by
 unfold dQ
 cases hh:(c == 32 || c == 9 || c == 13 || c == 10)
 ·rfl
 ·exfalso
  simp only [Bool.or_eq_true,beq_iff_eq] at hh
  rcases hh with ((rfl | rfl) | rfl) | rfl <;> exact absurd h (by decide)
theorem Gz {c:UInt8} (h:isLet c=true):dQ c=false:=by
 cases hh:dQ c
 ·rfl
 ·exfalso
  unfold dQ at hh
  simp only [Bool.or_eq_true,beq_iff_eq] at hh
  rcases hh with ((rfl | rfl) | rfl) | rfl <;> exact absurd h (by decide)
theorem zU {n:Int} (h0:0≤n) (h1:n≤2147483647):kP (nb n):=by
 have hn:=ET h0 h1
 obtain ⟨v,rfl⟩:=Int.eq_ofNat_of_zero_le h0
 unfold kP nb
 simp only
 rw [Lib.itoa_nonneg] at hn ⊢
 have hd:=JL v v (Nat.le_refl _)
 have hne:Lib.decDigits v≠[]:=by
  rw [Lib.decDigits]; split <;> simp
 generalize Lib.decDigits v=l at *
 match l,hne with
 | c :: r,_ =>
  have hc:=hd c (by simp)
  refine⟨c,r,rfl,I7 hc,?_⟩
  have hm:aQ aU (c :: r)=(c :: r).length:=pO (fun i hi=>Al (hd _ (List.getElem_mem hi)))
  simp only [tokAt,Iu hc,Al hc,hm,List.take_length,hn,if_true]
  rfl
theorem gW {t:List UInt8} (h:gX t=true):kP (nm t):=by
 cases t with
 | nil=>cases h
 | cons c r =>
  simp only [gX,Bool.and_eq_true,Bool.not_eq_true',beq_iff_eq] at h
  obtain ⟨⟨h1,h2⟩,h3⟩:=h
  refine⟨c,r,rfl,Gz h1,?_⟩
  simp only [tokAt,h1,if_true,h3,List.take_length,h2]
  rfl
def gN (l:List Tk):Prop:=∀ x∈l,kP x
theorem bW:gN []:=fun x h=>by cases h
theorem ax {x:Tk} {l:List Tk} (h:kP x) (hl:gN l):gN (x :: l):=by
 intro y hy
 rcases List.mem_cons.1 hy with rfl | hy
 ·exact h
 ·exact hl y hy
theorem bC {a b:List Tk} (h:gN a) (hl:gN b):gN (a ++ b):=by
 intro y hy
 rcases List.mem_append.1 hy with hy | hy
 ·exact h y hy
 ·exact hl y hy
theorem gy {x:List UInt8} (h:x∈oI):kP (wd x):=by
 simp only [oI,List.mem_cons,List.not_mem_nil,or_false] at h
 rcases h with rfl | rfl | rfl | rfl | rfl | rfl | rfl | rfl | rfl | rfl <;> exact⟨_,_,rfl,by decide,rfl⟩
theorem cz {c:UInt8} (h:c∈mJ):kP (mk4 [c]):=by
 simp only [mJ,List.mem_cons,List.not_mem_nil,or_false] at h
 rcases h with rfl | rfl | rfl | rfl | rfl | rfl | rfl | rfl | rfl | rfl | rfl | rfl | rfl | rfl | rfl | rfl | rfl | rfl | rfl <;> exact⟨_,_,rfl,by decide,rfl⟩
theorem Fg {n:Nat} (h1:1≤n) (h2:n≤14):kP (mk4 (bY n)):=by
 have:n=1∨n=2∨n=3∨n=4∨n=5∨n=6∨n=7∨n=8∨n=9∨n=10∨n=11∨n=12∨n=13∨n=14:=by omega
 rcases this with rfl | rfl | rfl | rfl | rfl | rfl | rfl | rfl | rfl | rfl | rfl | rfl | rfl | rfl <;> exact⟨_,_,rfl,by decide,rfl⟩
theorem CL:∀ (N:Nat) (x:Item),sizeI x≤N→WX x→bz x→∀ of,gN (outX of x):=by
 intro N
 induction N with
 | zero=>intro x h; have:=aW x; omega
 | succ N ih =>
  intro x hN hw hg of
  rcases fV hw with ⟨n,a,rfl⟩ | ⟨t,a,rfl⟩ | ⟨t,a,y,rfl,hy⟩ | ⟨n,a,y,rfl,hn,hy⟩ | ⟨n,a,y,z,rfl,hn1,hn2,hy,hz⟩
  ·obtain ⟨_,g,_⟩:=hg
   exact ax (zU g.1 g.2) bW
  ·obtain ⟨g,_,_⟩:=hg
   exact ax (gW (g rfl)) bW
  ·obtain ⟨g,_,g3⟩:=hg
   simp only [sizeI,sizeL] at hN
   exact ax (gW (g rfl)) (ax (cz (by decide)) (bC (ih y (by omega) hy g3.1 1) (ax (cz (by decide)) bW)))
  ·obtain ⟨_,_,g3⟩:=hg
   simp only [sizeI,sizeL] at hN
   simp only [outX]
   refine ax ?_ (ih y (by omega) hy g3.1 4)
   split
   ·exact cz (by decide)
   ·exact cz (by decide)
  ·obtain ⟨_,_,g3⟩:=hg
   simp only [sizeI,sizeL] at hN
   have h1:=ih y (by omega) hy g3.1 (aA ((n:Int)).toNat)
   have h2:=ih z (by omega) hz g3.2.1 (aA ((n:Int)).toNat+1)
   have hm:kP (mk4 (bY ((n:Int)).toNat)):=Fg (by omega) (by omega)
   simp only [outX]
   split
   ·exact ax (cz (by decide)) (bC (bC h1 (ax hm h2)) (ax (cz (by decide)) bW))
   ·exact bC h1 (ax hm h2)
theorem jf {x:Item} (h:WX x) (hg:bz x) (of:Nat):gN (outX of x):=CL _ x (Nat.le_refl _) h hg of
theorem vP:∀ (l:List Item) (b:Bool),WXs l→eH l→gN (outA b l)
 | [],_,_,_=>bW
 | x :: r,b,h,hg=>by
  have h1:=jf h.1 hg.1 1
  have h2:=vP r false h.2 hg.2
  cases b
  ·exact bC (ax (cz (by decide)) bW) (bC h1 h2)
  ·exact bC bW (bC h1 h2)
theorem ry:∀ (l:List Item) (b:Bool),(∀ x∈l,WN 4 x)→eH l→gN (di b l)
 | [],_,_,_=>bW
 | x :: r,b,h,hg=>by
  have h2:=ry r false (fun z hz=>h z (List.mem_cons_of_mem _ hz)) hg.2
  have h1:kP (nm (dD x)):=by
   obtain ⟨k,t,n,a,ks⟩:=x
   have hw:=h _ (List.mem_cons_self ..)
   simp only [WN] at hw
   obtain ⟨rfl,_,_⟩:=hw
   exact gW (hg.1.1 rfl)
  cases b
  ·exact bC (ax (cz (by decide)) bW) (ax h1 h2)
  ·exact bC bW (ax h1 h2)
theorem DJ:∀ (N:Nat) (b:Bool) (x:Item),sizeI x≤N→WS b x→bz x→gN (outS x):=by
 intro N
 induction N with
 | zero=>intro b x h; have:=aW x; omega
 | succ N ih =>
  intro b x hN hw hg
  cases hw with
  | block a l hl =>
   obtain ⟨_,_,g3⟩:=hg
   simp only [sizeI] at hN
   have key:∀ l:List Item,(∀ x∈l,WS true x)→eH l→sizeL l≤N→gN (dI l):=by
    intro l
    induction l with
    | nil=>intro _ _ _; exact bW
    | cons y r ihl =>
     intro h1 hg h2
     simp only [sizeL] at h2
     exact bC (ih true y (by omega) (h1 y (List.mem_cons_self ..)) hg.1) (ihl (fun z hz=>h1 z (List.mem_cons_of_mem _ hz)) hg.2 (by omega))
   exact ax (cz (by decide)) (bC (key l hl g3 (by omega)) (ax (cz (by decide)) bW))
  | declare t a x hx =>
   obtain ⟨g,_,g3⟩:=hg
   exact ax (gy (by decide)) (ax (gW (g rfl)) (ax (cz (by decide)) (bC (jf hx g3.1 1) (ax (cz (by decide)) bW))))
  | assign t a x hx =>
   obtain ⟨g,_,g3⟩:=hg
   exact ax (gW (g rfl)) (ax (cz (by decide)) (bC (jf hx g3.1 1) (ax (cz (by decide)) bW)))
  | store t a x y hx hy =>
   obtain ⟨g,_,g3⟩:=hg
   exact ax (gW (g rfl)) (ax (cz (by decide)) (bC (jf hx g3.1 1) (ax (cz (by decide)) (ax (cz (by decide)) (bC (jf hy g3.2.1 1) (ax (cz (by decide)) bW))))))
  | if1 a x b hx hb =>
   obtain ⟨_,_,g3⟩:=hg
   simp only [sizeI,sizeL] at hN
   exact ax (gy (by decide)) (bC (jf hx g3.1 1) (ih _ b (by omega) hb g3.2.1))
  | if2 a x b c hx hb hc =>
   obtain ⟨_,_,g3⟩:=hg
   simp only [sizeI,sizeL] at hN
   exact ax (gy (by decide)) (bC (jf hx g3.1 1) (bC (ih _ b (by omega) hb g3.2.1) (ax (gy (by decide)) (ih _ c (by omega) hc g3.2.2.1))))
  | for1 a x b hx hb =>
   obtain ⟨_,_,g3⟩:=hg
   simp only [sizeI,sizeL] at hN
   exact ax (gy (by decide)) (bC (jf hx g3.1 1) (ih _ b (by omega) hb g3.2.1))
  | ret k a x hk hx =>
   obtain ⟨_,_,g3⟩:=hg
   have h1:=bC (jf hx g3.1 1) (ax (cz (c:=59) (by decide)) bW)
   rcases hk with rfl | rfl | rfl
   ·exact ax (gy (by decide)) h1
   ·exact ax (gy (by decide)) h1
   ·exact ax (gy (by decide)) h1
  | read t a =>
   obtain ⟨g,_,g3⟩:=hg
   exact ax (gy (by decide)) (ax (gW (g rfl)) (ax (cz (by decide)) bW))
  | call t a u b l hl =>
   obtain ⟨g,_,g3⟩:=hg
   have hu:=g3.1.1 rfl
   exact ax (gy (by decide)) (ax (gW (g rfl)) (ax (cz (by decide)) (ax (gW hu) (ax (cz (by decide)) (bC (vP l true hl g3.2) (ax (cz (by decide)) (ax (cz (by decide)) bW)))))))
theorem y7 {a b:List Item} (h:eH (a ++ b)):eH a∧eH b:=⟨wC fun x hx=>fT h x (List.mem_append_left _ hx),wC fun x hx=>fT h x (List.mem_append_right _ hx)⟩
theorem Dz {x:Item} (h:WD x) (hg:bz x):gN (outD x):=by
 cases h with
 | array t n a =>
  obtain ⟨g,g2,_⟩:=hg
  exact ax (gy (by decide)) (ax (gW (g rfl)) (ax (cz (by decide)) (ax (zU g2.1 g2.2) (ax (cz (by decide)) (ax (cz (by decide)) bW)))))
 | func t a l b hl hb =>
  obtain ⟨g,_,g3⟩:=hg
  obtain ⟨g4,g5⟩:=y7 g3
  simp only [outD,List.dropLast_concat,List.getLast?_concat]
  exact ax (gy (by decide)) (ax (gW (g rfl)) (ax (cz (by decide)) (bC (ry l true hl g4) (ax (cz (by decide)) (DJ _ false b (Nat.le_refl _) hb g5.1)))))
theorem rQ:∀ l:List Item,(∀ x∈l,WD x)→eH l→gN (cZ l)
 | [],_,_=>bW
 | x :: r,h,hg=>bC (Dz (h x (List.mem_cons_self ..)) hg.1) (rQ r (fun z hz=>h z (List.mem_cons_of_mem _ hz)) hg.2)
theorem Eo {x:Item} (h:WP x) (hg:bz x):gN (gM x):=by
 obtain ⟨k,t,n,a,l⟩:=x
 exact rQ l h.2.2.2 hg.2.2
end Go.Proofs.YtkkeocnnecegbaaGreatDoor
namespace Go.Proofs.YtkkeocnnecegbaaGreatDoor
open Go.RowKit
theorem Jm:∀ (N:Nat) (x:Item),sizeI x≤N→WX x→∀ of,outX of (erase x)=outX of x:=by
 intro N
 induction N with
 | zero=>intro x h; have:=aW x; omega
 | succ N ih =>
  intro x hN hw of
  rcases fV hw with ⟨n,a,rfl⟩ | ⟨t,a,rfl⟩ | ⟨t,a,y,rfl,hy⟩ | ⟨n,a,y,rfl,hn,hy⟩ | ⟨n,a,y,z,rfl,hn1,hn2,hy,hz⟩
  ·rfl
  ·rfl
  ·simp only [sizeI,sizeL] at hN
   simp only [erase,av,outX,ih y (by omega) hy]
  ·simp only [sizeI,sizeL] at hN
   simp only [erase,av,outX,ih y (by omega) hy]
  ·simp only [sizeI,sizeL] at hN
   simp only [erase,av,outX,ih y (by omega) hy,ih z (by omega) hz]
theorem fP {x:Item} (h:WX x) (of:Nat):outX of (erase x)=outX of x:=Jm _ x (Nat.le_refl _) h of
theorem rJ:∀ (l:List Item) (b:Bool),WXs l→outA b (av l)=outA b l
 | [],_,_=>rfl
 | x :: r,b,h=>by
  simp only [av,outA,fP h.1,rJ r false h.2]
theorem zi (x:Item):dD (erase x)=dD x:=by cases x; rfl
theorem qy:∀ (l:List Item) (b:Bool),di b (av l)=di b l
 | [],_=>rfl
 | x :: r,b=>by
  simp only [av,di,zi,qy r false]
theorem II:∀ (N:Nat) (b:Bool) (x:Item),sizeI x≤N→WS b x→outS (erase x)=outS x:=by
 intro N
 induction N with
 | zero=>intro b x h; have:=aW x; omega
 | succ N ih =>
  intro b x hN hw
  cases hw with
  | block a l hl =>
   simp only [sizeI] at hN
   have key:∀ l:List Item,(∀ x∈l,WS true x)→sizeL l≤N→dI (av l)=dI l:=by
    intro l
    induction l with
    | nil=>intro _ _; rfl
    | cons y r ihl =>
     intro h1 h2
     simp only [sizeL] at h2
     simp only [av,dI,ih true y (by omega) (h1 y (List.mem_cons_self ..)),ihl (fun z hz=>h1 z (List.mem_cons_of_mem _ hz)) (by omega)]
   simp only [erase,outS,key l hl (by omega)]
  | declare t a x hx=>simp only [erase,av,outS,fP hx]
  | assign t a x hx=>simp only [erase,av,outS,fP hx]
  | store t a x y hx hy=>simp only [erase,av,outS,fP hx,fP hy]
  | if1 a x b hx hb =>
   simp only [sizeI,sizeL] at hN
   simp only [erase,av,outS,fP hx,ih _ b (by omega) hb]
  | if2 a x b c hx hb hc =>
   simp only [sizeI,sizeL] at hN
   simp only [erase,av,outS,fP hx,ih _ b (by omega) hb,ih _ c (by omega) hc]
  | for1 a x b hx hb =>
   simp only [sizeI,sizeL] at hN
   simp only [erase,av,outS,fP hx,ih _ b (by omega) hb]
  | ret k a x hk hx =>
   rcases hk with rfl | rfl | rfl <;> simp only [erase,av,outS,fP hx]
  | read t a=>rfl
  | call t a u b l hl =>
   simp only [erase,av,outS,dD,rJ l true hl]
theorem Aw {b:Bool} {x:Item} (h:WS b x):outS (erase x)=outS x:=II _ b x (Nat.le_refl _) h
theorem BH {x:Item} (h:WD x):outD (erase x)=outD x:=by
 cases h with
 | array t n a=>rfl
 | func t a l b hl hb =>
  simp only [erase,vU,av,outD,List.dropLast_concat,List.getLast?_concat,qy,Aw hb]
theorem sI {x:Item} (h:WP x):gM (erase x)=gM x:=by
 obtain ⟨k,t,n,a,l⟩:=x
 obtain ⟨_,_,_,hl⟩:=h
 have key:∀ l:List Item,(∀ x∈l,WD x)→cZ (av l)=cZ l:=by
  intro l
  induction l with
  | nil=>intro _; rfl
  | cons y r ih =>
   intro h
   simp only [av,cZ,BH (h y (List.mem_cons_self ..)),ih (fun z hz=>h z (List.mem_cons_of_mem _ hz))]
 simp only [erase,gM,key l hl]
theorem uV {x y:Item} (h:WP x) (h':WP y) (e:erase x=erase y):gM x=gM y:=by
 rw [← sI h,e,sI h']
mutual
def mD (m:Nat):Item→Prop
 | .mk _ t _ _ ks=>t.length≤m∧j5 m ks
def j5 (m:Nat):List Item→Prop
 | []=>True
 | x :: r=>mD m x∧j5 m r
end
theorem Eu {m:Nat} {l:List Item} (h:j5 m l):∀ x∈l,mD m x:=by
 induction l with
 | nil=>intro x hx; cases hx
 | cons y r ih =>
  intro x hx
  rcases List.mem_cons.1 hx with rfl | hx
  ·exact h.1
  ·exact ih h.2 x hx
theorem GH {m:Nat} {l:List Item} (h:∀ x∈l,mD m x):j5 m l:=by
 induction l with
 | nil=>trivial
 | cons y r ih=>exact⟨h y (by simp),ih (fun x hx=>h x (by simp [hx]))⟩
end Go.Proofs.YtkkeocnnecegbaaGreatDoor
