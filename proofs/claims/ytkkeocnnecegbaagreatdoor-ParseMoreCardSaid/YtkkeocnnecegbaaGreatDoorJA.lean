/- Joint text: Spec, PSpec, PFuel, PBack, PBackS, PShape. By an AI agent. -/
import Derived.Lib.ParseIntBMem
import Derived.Lib.ItoaMem
/- The plain law of the package lex: which tokens a row of bytes has, or its first error. No program in sight. By an AI agent. -/
namespace Go.Proofs.YtkkeocnnecegbaaGreatDoor

def isLet (c : UInt8) : Bool := c == 95 || (97 ≤ c && c ≤ 122) || (65 ≤ c && c ≤ 90)
def isDig (c : UInt8) : Bool := 48 ≤ c && c ≤ 57
def isBlk (c : UInt8) : Bool := c == 32 || c == 9 || c == 13 || c == 10
def wordL : List (List UInt8) := [[118, 97, 114], [102, 117, 110, 99], [105, 102], [101, 108, 115, 101], [102, 111, 114], [114, 101, 116, 117, 114, 110], [112, 114, 105, 110, 116], [101, 120, 105, 116], [114, 101, 97, 100], [99, 97, 108, 108]]
def isWordS (l : List UInt8) : Bool := decide (l ∈ wordL)
def markL : List UInt8 := [40, 41, 123, 125, 91, 93, 44, 59, 61, 60, 43, 45, 124, 94, 42, 47, 37, 38, 33]
def mark2L : List (List UInt8) := [[60, 61], [61, 61], [33, 61], [60, 60], [62, 62]]
def isMarkS (l : List UInt8) : Bool := decide (l ∈ mark2L) || (match l with | [c] => decide (c ∈ markL) | _ => false)
/-- A number's; none: it is too great, or begins with 0. -/
def numS (l : List UInt8) : Option Int :=
  match Lib.parseUintM 2147483647 0 l with
  | .ok v => if l ≠ [48] ∧ l.head? = some 48 then none else some (v : Int)
  | _ => none

structure Tok where
  kind : Nat
  text : List UInt8
  n : Int
  at' : Nat

/-- How long a token of a set of bytes at the beginning is. -/
def manyS (p : UInt8 → Bool) (r : List UInt8) : Nat := (r.takeWhile p).length
def markLen (r : List UInt8) : Nat := if isMarkS (r.take 2) then min 2 r.length else if isMarkS (r.take 1) then 1 else 0

/-- The token at the beginning of r (not empty, no blank): its kind, length, number; or the error. -/
def tokAt (r : List UInt8) : Except Int (Nat × Nat × Int) :=
  match r with
  | [] => .error 130
  | c :: _ =>
    if isLet c then .ok (if isWordS (r.take (manyS (fun c => isLet c || isDig c) r)) then 2 else 1, manyS (fun c => isLet c || isDig c) r, 0)
    else if isDig c then
      match numS (r.take (manyS isDig r)) with
      | some v => .ok (3, manyS isDig r, v)
      | none => .error 131
    else if markLen r = 0 then .error 130 else .ok (4, markLen r, 0)

/-- The tokens from place at' on, behind acc; or the first error, at its place. -/
def lexFrom : Nat → List UInt8 → Nat → List Tok → Except (Nat × Int) (List Tok)
  | 0, _, at', acc => .ok (acc ++ [⟨5, [], 0, at'⟩])
  | _ + 1, [], at', acc => .ok (acc ++ [⟨5, [], 0, at'⟩])
  | f + 1, c :: r, at', acc =>
    if isBlk c then lexFrom f r (at' + 1) acc
    else match tokAt (c :: r) with
      | .error e => .error (at', e)
      | .ok (k, n, v) => lexFrom f ((c :: r).drop n) (at' + n) (acc ++ [⟨k, (c :: r).take n, v, at'⟩])
def lexS (l : List UInt8) : Except (Nat × Int) (List Tok) := lexFrom l.length l 0 []

theorem manyS_le (p : UInt8 → Bool) (r : List UInt8) : manyS p r ≤ r.length := (List.takeWhile_prefix p).length_le
theorem manyS_pos {p : UInt8 → Bool} {c : UInt8} {r : List UInt8} (h : p c = true) : 0 < manyS p (c :: r) := by simp [manyS, h]
theorem manyS_zero {p : UInt8 → Bool} {c : UInt8} {r : List UInt8} (h : p c = false) : manyS p (c :: r) = 0 := by simp [manyS, h]
theorem markLen_le (r : List UInt8) : markLen r ≤ r.length := by
  unfold markLen
  split
  · omega
  · split
    · rename_i h
      cases r with
      | nil => simp [isMarkS, mark2L] at h
      | cons c r => simp
    · omega
/-- Whether p holds of byte i says where the row of bytes of p ends. -/
theorem manyS_at {p : UInt8 → Bool} {r : List UInt8} {k : Nat} (hk : k < r.length) (hall : ∀ i (h : i < r.length), i < k → p r[i] = true) (hno : p r[k] = false) : manyS p r = k := by
  induction r generalizing k with
  | nil => simp at hk
  | cons c r ih =>
    cases k with
    | zero => exact manyS_zero (by simpa using hno)
    | succ k =>
      have h0 := hall 0 (by simp) (by omega)
      have := ih (k := k) (by simpa using hk) (fun i h hi => hall (i + 1) (by simpa using h) (by omega)) hno
      simp only [manyS] at this ⊢
      simp only [List.getElem_cons_zero] at h0
      rw [List.takeWhile_cons, if_pos h0, List.length_cons, this]
theorem manyS_all {p : UInt8 → Bool} {r : List UInt8} (hall : ∀ i (h : i < r.length), p r[i] = true) : manyS p r = r.length := by
  induction r with
  | nil => rfl
  | cons c r ih =>
    have h0 := hall 0 (by simp)
    have h1 := ih (fun i h => hall (i + 1) (by simpa using h))
    simp only [List.getElem_cons_zero] at h0
    simp only [manyS] at h1 ⊢
    rw [List.takeWhile_cons, if_pos h0, List.length_cons, h1, List.length_cons]
end Go.Proofs.YtkkeocnnecegbaaGreatDoor

/- The plain law of the package parse: which tree a row of tokens has, or its first error. No program in sight. By an AI agent. -/
namespace Go.Proofs.YtkkeocnnecegbaaGreatDoor

/-- A node with its kids themselves. -/
inductive Item where
  | mk (kind : Nat) (text : List UInt8) (n : Int) (at' : Nat) (kids : List Item)

/-- A node of a tree: its kids by their places. -/
structure NodeS where
  kind : Nat
  text : List UInt8
  n : Int
  at' : Nat
  kids : List Nat

mutual
def sizeI : Item → Nat
  | .mk _ _ _ _ ks => 1 + sizeL ks
def sizeL : List Item → Nat
  | [] => 0
  | x :: r => sizeI x + sizeL r
end
/-- The places of kids that stand one behind the other, from a place on. -/
def offs : Nat → List Item → List Nat
  | _, [] => []
  | o, x :: r => o :: offs (o + sizeI x) r
mutual
def flat : Nat → Item → List NodeS
  | o, .mk k t n a ks => ⟨k, t, n, a, offs (o + 1) ks⟩ :: flatL (o + 1) ks
def flatL : Nat → List Item → List NodeS
  | _, [] => []
  | o, x :: r => flat o x ++ flatL (o + sizeI x) r
end

mutual
theorem flat_length : ∀ (x : Item) (o : Nat), (flat o x).length = sizeI x
  | .mk k t n a ks, o => by simp only [flat, sizeI, List.length_cons, flatL_length ks]; omega
theorem flatL_length : ∀ (l : List Item) (o : Nat), (flatL o l).length = sizeL l
  | [], o => by simp [flatL, sizeL]
  | x :: r, o => by simp only [flatL, sizeL, List.length_append, flat_length x, flatL_length r]
end
theorem offs_length : ∀ (l : List Item) (o : Nat), (offs o l).length = l.length
  | [], o => rfl
  | x :: r, o => by simp only [offs, List.length_cons, offs_length r]
theorem sizeI_pos : ∀ x : Item, 0 < sizeI x
  | .mk _ _ _ _ ks => by simp only [sizeI]; omega
theorem sizeL_append : ∀ a b : List Item, sizeL (a ++ b) = sizeL a + sizeL b
  | [], b => by simp [sizeL]
  | x :: r, b => by simp only [List.cons_append, sizeL, sizeL_append r b]; omega
theorem offs_append : ∀ (a b : List Item) (o : Nat), offs o (a ++ b) = offs o a ++ offs (o + sizeL a) b
  | [], b, o => by simp [offs, sizeL]
  | x :: r, b, o => by simp only [List.cons_append, offs, sizeL, offs_append r b]; rw [Nat.add_assoc]
theorem flatL_append : ∀ (a b : List Item) (o : Nat), flatL o (a ++ b) = flatL o a ++ flatL (o + sizeL a) b
  | [], b, o => by simp [flatL, sizeL]
  | x :: r, b, o => by simp only [List.cons_append, flatL, sizeL, flatL_append r b, List.append_assoc]; rw [Nat.add_assoc]

/-- An error: its place, its number. (0, -1): the fuel is out. -/
abbrev PErr := Nat × Int
def outE : PErr := (0, -1)

def nowAt : List Tok → Nat
  | t :: _ => t.at'
  | [] => 0
def nowKind : List Tok → Nat
  | t :: _ => t.kind
  | [] => 0
def nowText : List Tok → List UInt8
  | t :: _ => t.text
  | [] => []
def nowN : List Tok → Int
  | t :: _ => t.n
  | [] => 0
/-- Is the next token that word or mark? -/
def isT (x : List UInt8) (ts : List Tok) : Bool := (nowKind ts == 2 || nowKind ts == 4) && nowText ts == x
def takeT (x : List UInt8) (ts : List Tok) : Except PErr (List Tok) := if isT x ts then .ok ts.tail else .error (nowAt ts, 140)
def nameT (ts : List Tok) : Except PErr (List UInt8 × List Tok) := if nowKind ts = 1 then .ok (nowText ts, ts.tail) else .error (nowAt ts, 140)
def openT (x : List UInt8) (deep : Nat) (ts : List Tok) : Except PErr (List Tok) := if isT x ts && decide (64 ≤ deep) then .error (nowAt ts, 141) else takeT x ts

def binMarks : List (List UInt8) := [[60], [60, 61], [61, 61], [33, 61], [43], [45], [124], [94], [42], [47], [37], [38], [60, 60], [62, 62]]
def levelN (n : Nat) : Nat := if n ≤ 4 then 1 else if n ≤ 8 then 2 else 3
def markText (n : Nat) : List UInt8 := binMarks.getD (n - 1) []
/-- The first of the marks from n on, of a level, that is next; 0: none. -/
def markFrom (of : Nat) (ts : List Tok) : Nat → List (List UInt8) → Nat
  | _, [] => 0
  | n, m :: r => if levelN n = of ∧ isT m ts = true then n else markFrom of ts (n + 1) r
def markOf (of : Nat) (ts : List Tok) : Nat := markFrom of ts 1 binMarks

mutual
/-- An expression of a level. -/
def binS : Nat → Nat → Nat → List Tok → Except PErr (Item × List Tok)
  | 0, _, _, _ => .error outE
  | f + 1, of, deep, ts =>
    if 3 < of then unS f deep ts
    else match binS f (of + 1) deep ts with
      | .error e => .error e
      | .ok (x, ts1) => loopS f of deep (nowAt ts) x ts1
/-- What stands behind its first part. -/
def loopS : Nat → Nat → Nat → Nat → Item → List Tok → Except PErr (Item × List Tok)
  | 0, _, _, _, _, _ => .error outE
  | f + 1, of, deep, at', x, ts =>
    if markOf of ts = 0 then .ok (x, ts)
    else match binS f (of + 1) deep ts.tail with
      | .error e => .error e
      | .ok (y, ts1) => loopS f of deep at' (.mk 21 [] (markOf of ts) at' [x, y]) ts1
def unS : Nat → Nat → List Tok → Except PErr (Item × List Tok)
  | 0, _, _ => .error outE
  | f + 1, deep, ts =>
    if isT [45] ts = true then
      match openT [45] deep ts with
      | .error e => .error e
      | .ok ts1 => match unS f (deep + 1) ts1 with
        | .error e => .error e
        | .ok (x, ts2) => .ok (.mk 20 [] 1 (nowAt ts) [x], ts2)
    else if isT [33] ts = true then
      match openT [33] deep ts with
      | .error e => .error e
      | .ok ts1 => match unS f (deep + 1) ts1 with
        | .error e => .error e
        | .ok (x, ts2) => .ok (.mk 20 [] 2 (nowAt ts) [x], ts2)
    else facS f deep ts
def facS : Nat → Nat → List Tok → Except PErr (Item × List Tok)
  | 0, _, _ => .error outE
  | f + 1, deep, ts =>
    if nowKind ts = 3 then .ok (.mk 17 [] (nowN ts) (nowAt ts) [], ts.tail)
    else if nowKind ts = 1 then
      if isT [91] ts.tail = true then
        match openT [91] deep ts.tail with
        | .error e => .error e
        | .ok ts1 => match binS f 1 (deep + 1) ts1 with
          | .error e => .error e
          | .ok (x, ts2) => match takeT [93] ts2 with
            | .error e => .error e
            | .ok ts3 => .ok (.mk 19 (nowText ts) 0 (nowAt ts) [x], ts3)
      else .ok (.mk 18 (nowText ts) 0 (nowAt ts) [], ts.tail)
    else match openT [40] deep ts with
      | .error e => .error e
      | .ok ts1 => match binS f 1 (deep + 1) ts1 with
        | .error e => .error e
        | .ok (x, ts2) => match takeT [41] ts2 with
          | .error e => .error e
          | .ok ts3 => .ok (x, ts3)
end

/-- Expressions with commas between, up to the bracket: behind acc. -/
def argsS : Nat → Nat → Bool → List Item → List Tok → Except PErr (List Item × List Tok)
  | 0, _, _, _, _ => .error outE
  | f + 1, deep, first, acc, ts =>
    if isT [41] ts = true then .ok (acc, ts)
    else match (if first then .ok ts else takeT [44] ts) with
      | .error e => .error e
      | .ok ts1 => match binS f 1 deep ts1 with
        | .error e => .error e
        | .ok (x, ts2) => argsS f deep false (acc ++ [x]) ts2
/-- Parameters likewise. -/
def parsS : Nat → Bool → List Item → List Tok → Except PErr (List Item × List Tok)
  | 0, _, _, _ => .error outE
  | f + 1, first, acc, ts =>
    if isT [41] ts = true then .ok (acc, ts)
    else match (if first then .ok ts else takeT [44] ts) with
      | .error e => .error e
      | .ok ts1 => match nameT ts1 with
        | .error e => .error e
        | .ok (t, ts2) => parsS f false (acc ++ [.mk 4 t 0 (nowAt ts1) []]) ts2

/-- An expression, and a semicolon. -/
def endsS (f deep : Nat) (ts : List Tok) : Except PErr (Item × List Tok) :=
  match binS f 1 deep ts with
  | .error e => .error e
  | .ok (x, ts1) => match takeT [59] ts1 with
    | .error e => .error e
    | .ok ts2 => .ok (x, ts2)
/-- The kind of a statement that begins with a word; 0: none. -/
def wordKinds : List (List UInt8 × Nat) := [([118, 97, 114], 6), ([105, 102], 9), ([102, 111, 114], 10), ([114, 101, 116, 117, 114, 110], 11), ([112, 114, 105, 110, 116], 12), ([101, 120, 105, 116], 13), ([114, 101, 97, 100], 14), ([99, 97, 108, 108], 15)]
def wordKind (ts : List Tok) : Nat := if nowKind ts = 2 then ((wordKinds.lookup (nowText ts)).getD 0) else 0

/-- var name = expr ; (behind its word) -/
def declareS (f deep at' : Nat) (ts : List Tok) : Except PErr (Item × List Tok) :=
  match nameT ts with
  | .error e => .error e
  | .ok (t, ts1) => match takeT [61] ts1 with
    | .error e => .error e
    | .ok ts2 => match endsS f deep ts2 with
      | .error e => .error e
      | .ok (x, ts3) => .ok (.mk 6 t 0 at' [x], ts3)
def readS (at' : Nat) (ts : List Tok) : Except PErr (Item × List Tok) :=
  match nameT ts with
  | .error e => .error e
  | .ok (t, ts1) => match takeT [59] ts1 with
    | .error e => .error e
    | .ok ts2 => .ok (.mk 14 t 0 at' [], ts2)
def callS (f deep at' : Nat) (ts : List Tok) : Except PErr (Item × List Tok) :=
  match nameT ts with
  | .error e => .error e
  | .ok (t, ts1) => match takeT [61] ts1 with
    | .error e => .error e
    | .ok ts2 => match nameT ts2 with
      | .error e => .error e
      | .ok (u, ts3) => match takeT [40] ts3 with
        | .error e => .error e
        | .ok ts4 => match argsS f deep true [] ts4 with
          | .error e => .error e
          | .ok (l, ts5) => match takeT [41] ts5 with
            | .error e => .error e
            | .ok ts6 => match takeT [59] ts6 with
              | .error e => .error e
              | .ok ts7 => .ok (.mk 15 t 0 at' (.mk 16 u 0 (nowAt ts2) [] :: l), ts7)
def assignS (f deep : Nat) (ts : List Tok) : Except PErr (Item × List Tok) :=
  match nameT ts with
  | .error e => .error e
  | .ok (t, ts1) =>
    if isT [91] ts1 = true then
      match openT [91] deep ts1 with
      | .error e => .error e
      | .ok ts2 => match binS f 1 (deep + 1) ts2 with
        | .error e => .error e
        | .ok (x, ts3) => match takeT [93] ts3 with
          | .error e => .error e
          | .ok ts4 => match takeT [61] ts4 with
            | .error e => .error e
            | .ok ts5 => match endsS f deep ts5 with
              | .error e => .error e
              | .ok (y, ts6) => .ok (.mk 8 t 0 (nowAt ts) [x, y], ts6)
    else match takeT [61] ts1 with
      | .error e => .error e
      | .ok ts2 => match endsS f deep ts2 with
        | .error e => .error e
        | .ok (x, ts3) => .ok (.mk 7 t 0 (nowAt ts) [x], ts3)

mutual
def blockS : Nat → Nat → List Tok → Except PErr (Item × List Tok)
  | 0, _, _ => .error outE
  | f + 1, deep, ts => match openT [123] deep ts with
    | .error e => .error e
    | .ok ts1 => match stmtsS f (deep + 1) [] ts1 with
      | .error e => .error e
      | .ok (l, ts2) => match takeT [125] ts2 with
        | .error e => .error e
        | .ok ts3 => .ok (.mk 5 [] 0 (nowAt ts) l, ts3)
def stmtsS : Nat → Nat → List Item → List Tok → Except PErr (List Item × List Tok)
  | 0, _, _, _ => .error outE
  | f + 1, deep, acc, ts =>
    if isT [125] ts = true then .ok (acc, ts)
    else match stmtS f deep ts with
      | .error e => .error e
      | .ok (x, ts1) => stmtsS f deep (acc ++ [x]) ts1
def chooseS : Nat → Nat → Nat → List Tok → Except PErr (Item × List Tok)
  | 0, _, _, _ => .error outE
  | f + 1, deep, at', ts => match binS f 1 deep ts with
    | .error e => .error e
    | .ok (x, ts1) => match blockS f deep ts1 with
      | .error e => .error e
      | .ok (b, ts2) =>
        if isT [101, 108, 115, 101] ts2 = true then
          match blockS f deep ts2.tail with
          | .error e => .error e
          | .ok (c, ts3) => .ok (.mk 9 [] 0 at' [x, b, c], ts3)
        else .ok (.mk 9 [] 0 at' [x, b], ts2)
def forS : Nat → Nat → Nat → List Tok → Except PErr (Item × List Tok)
  | 0, _, _, _ => .error outE
  | f + 1, deep, at', ts => match binS f 1 deep ts with
    | .error e => .error e
    | .ok (x, ts1) => match blockS f deep ts1 with
      | .error e => .error e
      | .ok (b, ts2) => .ok (.mk 10 [] 0 at' [x, b], ts2)
def stmtS : Nat → Nat → List Tok → Except PErr (Item × List Tok)
  | 0, _, _ => .error outE
  | f + 1, deep, ts =>
    if wordKind ts = 0 then assignS f deep ts
    else if wordKind ts = 6 then declareS f deep (nowAt ts) ts.tail
    else if wordKind ts = 9 then chooseS f deep (nowAt ts) ts.tail
    else if wordKind ts = 10 then forS f deep (nowAt ts) ts.tail
    else if wordKind ts = 14 then readS (nowAt ts) ts.tail
    else if wordKind ts = 15 then callS f deep (nowAt ts) ts.tail
    else match endsS f deep ts.tail with
      | .error e => .error e
      | .ok (x, ts1) => .ok (.mk (wordKind ts) [] 0 (nowAt ts) [x], ts1)
end

def arrayS (ts : List Tok) : Except PErr (Item × List Tok) :=
  match takeT [118, 97, 114] ts with
  | .error e => .error e
  | .ok ts1 => match nameT ts1 with
    | .error e => .error e
    | .ok (t, ts2) => match takeT [91] ts2 with
      | .error e => .error e
      | .ok ts3 => if nowKind ts3 = 3 then
          match takeT [93] ts3.tail with
          | .error e => .error e
          | .ok ts4 => match takeT [59] ts4 with
            | .error e => .error e
            | .ok ts5 => .ok (.mk 2 t (nowN ts3) (nowAt ts) [], ts5)
        else .error (nowAt ts3, 140)
def funcS (f : Nat) (ts : List Tok) : Except PErr (Item × List Tok) :=
  match takeT [102, 117, 110, 99] ts with
  | .error e => .error e
  | .ok ts1 => match nameT ts1 with
    | .error e => .error e
    | .ok (t, ts2) => match takeT [40] ts2 with
      | .error e => .error e
      | .ok ts3 => match parsS f true [] ts3 with
        | .error e => .error e
        | .ok (l, ts4) => match takeT [41] ts4 with
          | .error e => .error e
          | .ok ts5 => match blockS f 0 ts5 with
            | .error e => .error e
            | .ok (b, ts6) => .ok (.mk 3 t 0 (nowAt ts) (l ++ [b]), ts6)
/-- The parts of a program, behind acc, up to the end. -/
def partsS : Nat → List Item → List Tok → Except PErr (List Item)
  | 0, _, _ => .error outE
  | f + 1, acc, ts =>
    if nowKind ts = 5 then .ok acc
    else match (if isT [118, 97, 114] ts = true then arrayS ts else funcS f ts) with
      | .error e => .error e
      | .ok (x, ts1) => partsS f (acc ++ [x]) ts1
def progS (ts : List Tok) : Except PErr Item :=
  match partsS (16 * ts.length + 16) [] ts with
  | .error e => .error e
  | .ok l => .ok (.mk 1 [] 0 (nowAt ts) l)
/-- A source's tree, or its first error. -/
def parseS (src : List UInt8) : Except PErr Item :=
  match lexS src with
  | .error e => .error e
  | .ok ts => progS ts
end Go.Proofs.YtkkeocnnecegbaaGreatDoor

/- Plain law of parse: what is read is a beginning, and the fuel is enough. By an AI agent. -/
namespace Go.Proofs.YtkkeocnnecegbaaGreatDoor

/-- A row of tokens that ends with an End, and has no other one. -/
inductive EndL : List Tok → Prop
  | one (t : Tok) : t.kind = 5 → EndL [t]
  | more (t : Tok) (r : List Tok) : t.kind ≠ 5 → EndL r → EndL (t :: r)

theorem EndL.ne {ts : List Tok} (h : EndL ts) : ts ≠ [] := by cases h <;> simp
theorem EndL.tail {ts : List Tok} (h : EndL ts) (hk : nowKind ts ≠ 5) : EndL ts.tail ∧ ts.tail.length + 1 = ts.length := by
  cases h with
  | one t ht => exact absurd ht hk
  | more t r ht hr => exact ⟨hr, rfl⟩
theorem isT_kind {x : List UInt8} {ts : List Tok} (h : isT x ts = true) : nowKind ts ≠ 5 := by
  intro e; rw [isT, e] at h; simp at h
theorem takeT_ok {x : List UInt8} {ts r : List Tok} (he : EndL ts) (h : takeT x ts = .ok r) : EndL r ∧ r.length + 1 = ts.length ∧ r = ts.tail ∧ isT x ts = true := by
  unfold takeT at h
  split at h
  · rename_i hi
    injection h with h; subst h
    have := he.tail (isT_kind hi)
    exact ⟨this.1, this.2, rfl, hi⟩
  · cases h
theorem nameT_ok {ts r : List Tok} {t : List UInt8} (he : EndL ts) (h : nameT ts = .ok (t, r)) : EndL r ∧ r.length + 1 = ts.length ∧ r = ts.tail ∧ t = nowText ts ∧ nowKind ts = 1 := by
  unfold nameT at h
  split at h
  · rename_i hi
    injection h with h; injection h with h1 h2; subst h1 h2
    have := he.tail (by omega)
    exact ⟨this.1, this.2, rfl, rfl, hi⟩
  · cases h
theorem openT_ok {x : List UInt8} {d : Nat} {ts r : List Tok} (he : EndL ts) (h : openT x d ts = .ok r) : EndL r ∧ r.length + 1 = ts.length ∧ r = ts.tail ∧ isT x ts = true := by
  unfold openT at h
  split at h
  · cases h
  · exact takeT_ok he h
theorem markFrom_is {of : Nat} {ts : List Tok} : ∀ (l : List (List UInt8)) (n : Nat), markFrom of ts n l ≠ 0 → nowKind ts ≠ 5
  | [], n, h => absurd rfl h
  | m :: r, n, h => by
    unfold markFrom at h
    split at h
    · rename_i hc; exact isT_kind hc.2
    · exact markFrom_is r _ h
theorem markOf_tail {of : Nat} {ts : List Tok} (he : EndL ts) (h : markOf of ts ≠ 0) : EndL ts.tail ∧ ts.tail.length + 1 = ts.length := he.tail (markFrom_is _ _ h)
theorem takeT_err {x : List UInt8} {ts : List Tok} : takeT x ts ≠ .error outE := by
  unfold takeT; split <;> simp [outE]
theorem nameT_err {ts : List Tok} : nameT ts ≠ .error outE := by
  unfold nameT; split <;> simp [outE]
theorem openT_err {x : List UInt8} {d : Nat} {ts : List Tok} : openT x d ts ≠ .error outE := by
  unfold openT; split
  · simp [outE]
  · exact takeT_err

/-- What is left is shorter, and ends as before. -/
def Sh (ts r : List Tok) : Prop := EndL r ∧ r.length < ts.length
def Sg (ts r : List Tok) : Prop := EndL r ∧ r.length ≤ ts.length

theorem expr_ok : ∀ f : Nat,
    (∀ of d ts x r, EndL ts → binS f of d ts = .ok (x, r) → Sh ts r) ∧
    (∀ of d a x0 ts x r, EndL ts → loopS f of d a x0 ts = .ok (x, r) → Sg ts r) ∧
    (∀ d ts x r, EndL ts → unS f d ts = .ok (x, r) → Sh ts r) ∧
    (∀ d ts x r, EndL ts → facS f d ts = .ok (x, r) → Sh ts r)
  | 0 => ⟨by intros; simp_all [binS], by intros; simp_all [loopS], by intros; simp_all [unS], by intros; simp_all [facS]⟩
  | f + 1 => by
    obtain ⟨hb, hl, hu, hf⟩ := expr_ok f
    refine ⟨?_, ?_, ?_, ?_⟩
    · intro of d ts x r he h
      unfold binS at h
      split at h
      · exact hu d ts x r he h
      · split at h
        · cases h
        · rename_i y ts1 h1
          obtain ⟨a1, a2⟩ := hb _ _ _ _ _ he h1
          obtain ⟨b1, b2⟩ := hl _ _ _ _ _ _ _ a1 h
          exact ⟨b1, by omega⟩
    · intro of d a x0 ts x r he h
      unfold loopS at h
      split at h
      · injection h with h; injection h with h1 h2; subst h2; exact ⟨he, Nat.le_refl _⟩
      · rename_i hm
        obtain ⟨t1, t2⟩ := markOf_tail he hm
        split at h
        · cases h
        · rename_i y ts1 h1
          obtain ⟨a1, a2⟩ := hb _ _ _ _ _ t1 h1
          obtain ⟨b1, b2⟩ := hl _ _ _ _ _ _ _ a1 h
          exact ⟨b1, by omega⟩
    · intro d ts x r he h
      unfold unS at h
      split at h
      · split at h
        · cases h
        · rename_i ts1 h0
          obtain ⟨c1, c2, _⟩ := openT_ok he h0
          split at h
          · cases h
          · rename_i y ts2 h1
            obtain ⟨a1, a2⟩ := hu _ _ _ _ c1 h1
            injection h with h; injection h with h1 h2; subst h2
            exact ⟨a1, by omega⟩
      · split at h
        · split at h
          · cases h
          · rename_i ts1 h0
            obtain ⟨c1, c2, _⟩ := openT_ok he h0
            split at h
            · cases h
            · rename_i y ts2 h1
              obtain ⟨a1, a2⟩ := hu _ _ _ _ c1 h1
              injection h with h; injection h with h1 h2; subst h2
              exact ⟨a1, by omega⟩
        · exact hf d ts x r he h
    · intro d ts x r he h
      unfold facS at h
      split at h
      · rename_i hk
        injection h with h; injection h with h1 h2; subst h2
        obtain ⟨t1, t2⟩ := he.tail (by omega)
        exact ⟨t1, by omega⟩
      · split at h
        · rename_i hk
          obtain ⟨t1, t2⟩ := he.tail (by omega)
          split at h
          · split at h
            · cases h
            · rename_i ts1 h0
              obtain ⟨c1, c2, _⟩ := openT_ok t1 h0
              split at h
              · cases h
              · rename_i y ts2 h1
                obtain ⟨a1, a2⟩ := hb _ _ _ _ _ c1 h1
                split at h
                · cases h
                · rename_i ts3 h2
                  obtain ⟨d1, d2, _⟩ := takeT_ok a1 h2
                  injection h with h; injection h with h1 h2; subst h2
                  exact ⟨d1, by omega⟩
          · injection h with h; injection h with h1 h2; subst h2
            exact ⟨t1, by omega⟩
        · split at h
          · cases h
          · rename_i ts1 h0
            obtain ⟨c1, c2, _⟩ := openT_ok he h0
            split at h
            · cases h
            · rename_i y ts2 h1
              obtain ⟨a1, a2⟩ := hb _ _ _ _ _ c1 h1
              split at h
              · cases h
              · rename_i ts3 h2
                obtain ⟨d1, d2, _⟩ := takeT_ok a1 h2
                injection h with h; injection h with h1 h2; subst h2
                exact ⟨d1, by omega⟩

theorem expr_fuel : ∀ f : Nat,
    (∀ of d ts, EndL ts → of ≤ 4 → 12 * ts.length + 8 ≤ f + of → binS f of d ts ≠ .error outE) ∧
    (∀ of d a x0 ts, EndL ts → of ≤ 3 → 12 * ts.length + 1 ≤ f → loopS f of d a x0 ts ≠ .error outE) ∧
    (∀ d ts, EndL ts → 12 * ts.length + 3 ≤ f → unS f d ts ≠ .error outE) ∧
    (∀ d ts, EndL ts → 12 * ts.length + 2 ≤ f → facS f d ts ≠ .error outE)
  | 0 => by
    have hp : ∀ ts, EndL ts → 0 < ts.length := fun ts h => by cases h <;> simp
    refine ⟨fun of d ts he ho hn => ?_, fun of d a x0 ts he ho hn => ?_, fun d ts he hn => ?_, fun d ts he hn => ?_⟩ <;> (have := hp ts he; omega)
  | f + 1 => by
    obtain ⟨hb, hl, hu, hf⟩ := expr_fuel f
    obtain ⟨ob, ol, ou, of'⟩ := expr_ok f
    refine ⟨?_, ?_, ?_, ?_⟩
    · intro of d ts he ho hn
      unfold binS
      split
      · exact hu d ts he (by omega)
      · split
        · rename_i e h1
          intro h; injection h with h; subst h
          exact hb _ _ _ he (by omega) (by omega) h1
        · rename_i y ts1 h1
          obtain ⟨a1, a2⟩ := ob _ _ _ _ _ he h1
          exact hl _ _ _ _ _ a1 (by omega) (by omega)
    · intro of d a x0 ts he ho hn
      unfold loopS
      split
      · simp
      · rename_i hm
        obtain ⟨t1, t2⟩ := markOf_tail he hm
        split
        · rename_i e h1
          intro h; injection h with h; subst h
          exact hb _ _ _ t1 (by omega) (by omega) h1
        · rename_i y ts1 h1
          obtain ⟨a1, a2⟩ := ob _ _ _ _ _ t1 h1
          exact hl _ _ _ _ _ a1 (by omega) (by omega)
    · intro d ts he hn
      unfold unS
      split
      · split
        · rename_i e h1
          intro h; injection h with h; subst h
          exact openT_err h1
        · rename_i ts1 h0
          obtain ⟨c1, c2, _⟩ := openT_ok he h0
          split
          · rename_i e h1
            intro h; injection h with h; subst h
            exact hu _ _ c1 (by omega) h1
          · simp
      · split
        · split
          · rename_i e h1
            intro h; injection h with h; subst h
            exact openT_err h1
          · rename_i ts1 h0
            obtain ⟨c1, c2, _⟩ := openT_ok he h0
            split
            · rename_i e h1
              intro h; injection h with h; subst h
              exact hu _ _ c1 (by omega) h1
            · simp
        · exact hf d ts he (by omega)
    · intro d ts he hn
      unfold facS
      split
      · simp
      · split
        · rename_i hk
          obtain ⟨t1, t2⟩ := he.tail (by omega)
          split
          · split
            · rename_i e h1
              intro h; injection h with h; subst h
              exact openT_err h1
            · rename_i ts1 h0
              obtain ⟨c1, c2, _⟩ := openT_ok t1 h0
              split
              · rename_i e h1
                intro h; injection h with h; subst h
                exact hb _ _ _ c1 (by omega) (by omega) h1
              · split
                · rename_i e h1
                  intro h; injection h with h; subst h
                  exact takeT_err h1
                · simp
          · simp
        · split
          · rename_i e h1
            intro h; injection h with h; subst h
            exact openT_err h1
          · rename_i ts1 h0
            obtain ⟨c1, c2, _⟩ := openT_ok he h0
            split
            · rename_i e h1
              intro h; injection h with h; subst h
              exact hb _ _ _ c1 (by omega) (by omega) h1
            · split
              · rename_i e h1
                intro h; injection h with h; subst h
                exact takeT_err h1
              · simp

theorem bin_ok {f of d : Nat} {ts r : List Tok} {x : Item} (he : EndL ts) (h : binS f of d ts = .ok (x, r)) : EndL r ∧ r.length < ts.length := (expr_ok f).1 _ _ _ _ _ he h
theorem bin_fuel {f d : Nat} {ts : List Tok} (he : EndL ts) (h : 12 * ts.length + 7 ≤ f) : binS f 1 d ts ≠ .error outE := (expr_fuel f).1 _ _ _ he (by omega) (by omega)
theorem args_ok : ∀ (f d : Nat) (b : Bool) (acc : List Item) (ts r : List Tok) (l : List Item), EndL ts → argsS f d b acc ts = .ok (l, r) → EndL r ∧ r.length ≤ ts.length
  | 0, _, _, _, _, _, _, _, h => by simp [argsS] at h
  | f + 1, d, b, acc, ts, r, l, he, h => by
    unfold argsS at h
    split at h
    · injection h with h; injection h with h1 h2; subst h2; exact ⟨he, Nat.le_refl _⟩
    · split at h
      · cases h
      · rename_i ts1 h0
        have c : EndL ts1 ∧ ts1.length ≤ ts.length := by
          cases b
          · obtain ⟨c1, c2, _⟩ := takeT_ok he h0; exact ⟨c1, by omega⟩
          · injection h0 with h0; subst h0; exact ⟨he, Nat.le_refl _⟩
        split at h
        · cases h
        · rename_i x ts2 h1
          obtain ⟨a1, a2⟩ := bin_ok c.1 h1
          obtain ⟨b1, b2⟩ := args_ok f d false _ _ _ _ a1 h
          exact ⟨b1, by omega⟩
theorem args_fuel : ∀ (f d : Nat) (b : Bool) (acc : List Item) (ts : List Tok), EndL ts → 12 * ts.length + 8 ≤ f → argsS f d b acc ts ≠ .error outE
  | 0, _, _, _, _, _, h => by omega
  | f + 1, d, b, acc, ts, he, hn => by
    unfold argsS
    split
    · simp
    · split
      · rename_i e h0
        intro h; injection h with h; subst h
        cases b
        · exact takeT_err h0
        · cases h0
      · rename_i ts1 h0
        have c : EndL ts1 ∧ ts1.length ≤ ts.length := by
          cases b
          · obtain ⟨c1, c2, _⟩ := takeT_ok he h0; exact ⟨c1, by omega⟩
          · injection h0 with h0; subst h0; exact ⟨he, Nat.le_refl _⟩
        split
        · rename_i e h1
          intro h; injection h with h; subst h
          exact bin_fuel c.1 (by omega) h1
        · rename_i x ts2 h1
          obtain ⟨a1, a2⟩ := bin_ok c.1 h1
          exact args_fuel f d false _ _ a1 (by omega)
theorem pars_ok : ∀ (f : Nat) (b : Bool) (acc : List Item) (ts r : List Tok) (l : List Item), EndL ts → parsS f b acc ts = .ok (l, r) → EndL r ∧ r.length ≤ ts.length
  | 0, _, _, _, _, _, _, h => by simp [parsS] at h
  | f + 1, b, acc, ts, r, l, he, h => by
    unfold parsS at h
    split at h
    · injection h with h; injection h with h1 h2; subst h2; exact ⟨he, Nat.le_refl _⟩
    · split at h
      · cases h
      · rename_i ts1 h0
        have c : EndL ts1 ∧ ts1.length ≤ ts.length := by
          cases b
          · obtain ⟨c1, c2, _⟩ := takeT_ok he h0; exact ⟨c1, by omega⟩
          · injection h0 with h0; subst h0; exact ⟨he, Nat.le_refl _⟩
        split at h
        · cases h
        · rename_i x ts2 h1
          obtain ⟨a1, a2, _⟩ := nameT_ok c.1 h1
          obtain ⟨b1, b2⟩ := pars_ok f false _ _ _ _ a1 h
          exact ⟨b1, by omega⟩
theorem pars_fuel : ∀ (f : Nat) (b : Bool) (acc : List Item) (ts : List Tok), EndL ts → ts.length + 1 ≤ f → parsS f b acc ts ≠ .error outE
  | 0, _, _, _, _, h => by omega
  | f + 1, b, acc, ts, he, hn => by
    unfold parsS
    split
    · simp
    · split
      · rename_i e h0
        intro h; injection h with h; subst h
        cases b
        · exact takeT_err h0
        · cases h0
      · rename_i ts1 h0
        have c : EndL ts1 ∧ ts1.length ≤ ts.length := by
          cases b
          · obtain ⟨c1, c2, _⟩ := takeT_ok he h0; exact ⟨c1, by omega⟩
          · injection h0 with h0; subst h0; exact ⟨he, Nat.le_refl _⟩
        split
        · rename_i e h1
          intro h; injection h with h; subst h
          exact nameT_err h1
        · rename_i x ts2 h1
          obtain ⟨a1, a2, _⟩ := nameT_ok c.1 h1
          exact pars_fuel f false _ _ a1 (by omega)

theorem ends_ok {f d : Nat} {ts r : List Tok} {x : Item} (he : EndL ts) (h : endsS f d ts = .ok (x, r)) : EndL r ∧ r.length < ts.length := by
  unfold endsS at h
  split at h
  · cases h
  · rename_i y ts1 h1
    obtain ⟨a1, a2⟩ := bin_ok he h1
    split at h
    · cases h
    · rename_i ts2 h2
      obtain ⟨d1, d2, _⟩ := takeT_ok a1 h2
      injection h with h; injection h with h1 h2; subst h2
      exact ⟨d1, by omega⟩
theorem ends_fuel {f d : Nat} {ts : List Tok} (he : EndL ts) (hn : 12 * ts.length + 7 ≤ f) : endsS f d ts ≠ .error outE := by
  unfold endsS
  split
  · rename_i e h1; intro h; injection h with h; subst h; exact bin_fuel he hn h1
  · split
    · rename_i e h1; intro h; injection h with h; subst h; exact takeT_err h1
    · simp
theorem declare_ok {f d a : Nat} {ts r : List Tok} {x : Item} (he : EndL ts) (h : declareS f d a ts = .ok (x, r)) : EndL r ∧ r.length < ts.length := by
  unfold declareS at h
  split at h
  · cases h
  · rename_i t ts1 h1
    obtain ⟨a1, a2, _⟩ := nameT_ok he h1
    split at h
    · cases h
    · rename_i ts2 h2
      obtain ⟨b1, b2, _⟩ := takeT_ok a1 h2
      split at h
      · cases h
      · rename_i y ts3 h3
        obtain ⟨c1, c2⟩ := ends_ok b1 h3
        injection h with h; injection h with h1 h2; subst h2
        exact ⟨c1, by omega⟩
theorem declare_fuel {f d a : Nat} {ts : List Tok} (he : EndL ts) (hn : 12 * ts.length + 7 ≤ f) : declareS f d a ts ≠ .error outE := by
  unfold declareS
  split
  · rename_i e h1; intro h; injection h with h; subst h; exact nameT_err h1
  · rename_i t ts1 h1
    obtain ⟨a1, a2, _⟩ := nameT_ok he h1
    split
    · rename_i e h1; intro h; injection h with h; subst h; exact takeT_err h1
    · rename_i ts2 h2
      obtain ⟨b1, b2, _⟩ := takeT_ok a1 h2
      split
      · rename_i e h1; intro h; injection h with h; subst h; exact ends_fuel b1 (by omega) h1
      · simp
theorem read_ok {a : Nat} {ts r : List Tok} {x : Item} (he : EndL ts) (h : readS a ts = .ok (x, r)) : EndL r ∧ r.length < ts.length := by
  unfold readS at h
  split at h
  · cases h
  · rename_i t ts1 h1
    obtain ⟨a1, a2, _⟩ := nameT_ok he h1
    split at h
    · cases h
    · rename_i ts2 h2
      obtain ⟨b1, b2, _⟩ := takeT_ok a1 h2
      injection h with h; injection h with h1 h2; subst h2
      exact ⟨b1, by omega⟩
theorem read_fuel {a : Nat} {ts : List Tok} : readS a ts ≠ .error outE := by
  unfold readS
  split
  · rename_i e h1; intro h; injection h with h; subst h; exact nameT_err h1
  · split
    · rename_i e h1; intro h; injection h with h; subst h; exact takeT_err h1
    · simp
theorem call_ok {f d a : Nat} {ts r : List Tok} {x : Item} (he : EndL ts) (h : callS f d a ts = .ok (x, r)) : EndL r ∧ r.length < ts.length := by
  unfold callS at h
  split at h
  · cases h
  rename_i t ts1 h1
  obtain ⟨a1, a2, _⟩ := nameT_ok he h1
  split at h
  · cases h
  rename_i ts2 h2
  obtain ⟨b1, b2, _⟩ := takeT_ok a1 h2
  split at h
  · cases h
  rename_i u ts3 h3
  obtain ⟨c1, c2, _⟩ := nameT_ok b1 h3
  split at h
  · cases h
  rename_i ts4 h4
  obtain ⟨d1, d2, _⟩ := takeT_ok c1 h4
  split at h
  · cases h
  rename_i l ts5 h5
  obtain ⟨e1, e2⟩ := args_ok _ _ _ _ _ _ _ d1 h5
  split at h
  · cases h
  rename_i ts6 h6
  obtain ⟨f1, f2, _⟩ := takeT_ok e1 h6
  split at h
  · cases h
  rename_i ts7 h7
  obtain ⟨g1, g2, _⟩ := takeT_ok f1 h7
  injection h with h; injection h with h1 h2; subst h2
  exact ⟨g1, by omega⟩
theorem call_fuel {f d a : Nat} {ts : List Tok} (he : EndL ts) (hn : 12 * ts.length + 8 ≤ f) : callS f d a ts ≠ .error outE := by
  unfold callS
  split
  · rename_i e h1; intro h; injection h with h; subst h; exact nameT_err h1
  rename_i t ts1 h1
  obtain ⟨a1, a2, _⟩ := nameT_ok he h1
  split
  · rename_i e h1; intro h; injection h with h; subst h; exact takeT_err h1
  rename_i ts2 h2
  obtain ⟨b1, b2, _⟩ := takeT_ok a1 h2
  split
  · rename_i e h1; intro h; injection h with h; subst h; exact nameT_err h1
  rename_i u ts3 h3
  obtain ⟨c1, c2, _⟩ := nameT_ok b1 h3
  split
  · rename_i e h1; intro h; injection h with h; subst h; exact takeT_err h1
  rename_i ts4 h4
  obtain ⟨d1, d2, _⟩ := takeT_ok c1 h4
  split
  · rename_i e h1; intro h; injection h with h; subst h; exact args_fuel _ _ _ _ _ d1 (by omega) h1
  rename_i l ts5 h5
  split
  · rename_i e h1; intro h; injection h with h; subst h; exact takeT_err h1
  split
  · rename_i e h1; intro h; injection h with h; subst h; exact takeT_err h1
  · simp
theorem assign_ok {f d : Nat} {ts r : List Tok} {x : Item} (he : EndL ts) (h : assignS f d ts = .ok (x, r)) : EndL r ∧ r.length < ts.length := by
  unfold assignS at h
  split at h
  · cases h
  rename_i t ts1 h1
  obtain ⟨a1, a2, _⟩ := nameT_ok he h1
  split at h
  · split at h
    · cases h
    rename_i ts2 h2
    obtain ⟨b1, b2, _⟩ := openT_ok a1 h2
    split at h
    · cases h
    rename_i x ts3 h3
    obtain ⟨c1, c2⟩ := bin_ok b1 h3
    split at h
    · cases h
    rename_i ts4 h4
    obtain ⟨d1, d2, _⟩ := takeT_ok c1 h4
    split at h
    · cases h
    rename_i ts5 h5
    obtain ⟨e1, e2, _⟩ := takeT_ok d1 h5
    split at h
    · cases h
    rename_i y ts6 h6
    obtain ⟨f1, f2⟩ := ends_ok e1 h6
    injection h with h; injection h with h1 h2; subst h2
    exact ⟨f1, by omega⟩
  · split at h
    · cases h
    rename_i ts2 h2
    obtain ⟨b1, b2, _⟩ := takeT_ok a1 h2
    split at h
    · cases h
    rename_i y ts3 h3
    obtain ⟨f1, f2⟩ := ends_ok b1 h3
    injection h with h; injection h with h1 h2; subst h2
    exact ⟨f1, by omega⟩
theorem assign_fuel {f d : Nat} {ts : List Tok} (he : EndL ts) (hn : 12 * ts.length + 7 ≤ f) : assignS f d ts ≠ .error outE := by
  unfold assignS
  split
  · rename_i e h1; intro h; injection h with h; subst h; exact nameT_err h1
  rename_i t ts1 h1
  obtain ⟨a1, a2, _⟩ := nameT_ok he h1
  split
  · split
    · rename_i e h1; intro h; injection h with h; subst h; exact openT_err h1
    rename_i ts2 h2
    obtain ⟨b1, b2, _⟩ := openT_ok a1 h2
    split
    · rename_i e h1; intro h; injection h with h; subst h; exact bin_fuel b1 (by omega) h1
    rename_i x ts3 h3
    obtain ⟨c1, c2⟩ := bin_ok b1 h3
    split
    · rename_i e h1; intro h; injection h with h; subst h; exact takeT_err h1
    rename_i ts4 h4
    obtain ⟨d1, d2, _⟩ := takeT_ok c1 h4
    split
    · rename_i e h1; intro h; injection h with h; subst h; exact takeT_err h1
    rename_i ts5 h5
    obtain ⟨e1, e2, _⟩ := takeT_ok d1 h5
    split
    · rename_i e h1; intro h; injection h with h; subst h; exact ends_fuel e1 (by omega) h1
    · simp
  · split
    · rename_i e h1; intro h; injection h with h; subst h; exact takeT_err h1
    rename_i ts2 h2
    obtain ⟨b1, b2, _⟩ := takeT_ok a1 h2
    split
    · rename_i e h1; intro h; injection h with h; subst h; exact ends_fuel b1 (by omega) h1
    · simp

theorem wordKind_tail {ts : List Tok} (he : EndL ts) (h : wordKind ts ≠ 0) : EndL ts.tail ∧ ts.tail.length + 1 = ts.length := by
  refine he.tail ?_
  unfold wordKind at h
  split at h
  · omega
  · exact absurd rfl h

theorem stmt_ok : ∀ f : Nat,
    (∀ d ts x r, EndL ts → blockS f d ts = .ok (x, r) → Sh ts r) ∧
    (∀ d acc ts x r, EndL ts → stmtsS f d acc ts = .ok (x, r) → Sg ts r) ∧
    (∀ d a ts x r, EndL ts → chooseS f d a ts = .ok (x, r) → Sh ts r) ∧
    (∀ d a ts x r, EndL ts → forS f d a ts = .ok (x, r) → Sh ts r) ∧
    (∀ d ts x r, EndL ts → stmtS f d ts = .ok (x, r) → Sh ts r)
  | 0 => ⟨by intros; simp_all [blockS], by intros; simp_all [stmtsS], by intros; simp_all [chooseS], by intros; simp_all [forS], by intros; simp_all [stmtS]⟩
  | f + 1 => by
    obtain ⟨hb, hl, hc, hf, hs⟩ := stmt_ok f
    refine ⟨?_, ?_, ?_, ?_, ?_⟩
    · intro d ts x r he h
      unfold blockS at h
      split at h
      · cases h
      rename_i ts1 h1
      obtain ⟨a1, a2, _⟩ := openT_ok he h1
      split at h
      · cases h
      rename_i l ts2 h2
      obtain ⟨b1, b2⟩ := hl _ _ _ _ _ a1 h2
      split at h
      · cases h
      rename_i ts3 h3
      obtain ⟨c1, c2, _⟩ := takeT_ok b1 h3
      injection h with h; injection h with h1 h2; subst h2
      exact ⟨c1, by omega⟩
    · intro d acc ts x r he h
      unfold stmtsS at h
      split at h
      · injection h with h; injection h with h1 h2; subst h2; exact ⟨he, Nat.le_refl _⟩
      split at h
      · cases h
      rename_i y ts1 h1
      obtain ⟨a1, a2⟩ := hs _ _ _ _ he h1
      obtain ⟨b1, b2⟩ := hl _ _ _ _ _ a1 h
      exact ⟨b1, by omega⟩
    · intro d a ts x r he h
      unfold chooseS at h
      split at h
      · cases h
      rename_i y ts1 h1
      obtain ⟨a1, a2⟩ := bin_ok he h1
      split at h
      · cases h
      rename_i b ts2 h2
      obtain ⟨b1, b2⟩ := hb _ _ _ _ a1 h2
      split at h
      · rename_i hi
        obtain ⟨t1, t2⟩ := b1.tail (isT_kind hi)
        split at h
        · cases h
        rename_i c ts3 h3
        obtain ⟨c1, c2⟩ := hb _ _ _ _ t1 h3
        injection h with h; injection h with h1 h2; subst h2
        exact ⟨c1, by omega⟩
      · injection h with h; injection h with h1 h2; subst h2
        exact ⟨b1, by omega⟩
    · intro d a ts x r he h
      unfold forS at h
      split at h
      · cases h
      rename_i y ts1 h1
      obtain ⟨a1, a2⟩ := bin_ok he h1
      split at h
      · cases h
      rename_i b ts2 h2
      obtain ⟨b1, b2⟩ := hb _ _ _ _ a1 h2
      injection h with h; injection h with h1 h2; subst h2
      exact ⟨b1, by omega⟩
    · intro d ts x r he h
      unfold stmtS at h
      split at h
      · exact assign_ok he h
      rename_i hw
      obtain ⟨t1, t2⟩ := wordKind_tail he hw
      split at h
      · obtain ⟨c1, c2⟩ := declare_ok t1 h; exact ⟨c1, by omega⟩
      split at h
      · obtain ⟨c1, c2⟩ := hc _ _ _ _ _ t1 h; exact ⟨c1, by omega⟩
      split at h
      · obtain ⟨c1, c2⟩ := hf _ _ _ _ _ t1 h; exact ⟨c1, by omega⟩
      split at h
      · obtain ⟨c1, c2⟩ := read_ok t1 h; exact ⟨c1, by omega⟩
      split at h
      · obtain ⟨c1, c2⟩ := call_ok t1 h; exact ⟨c1, by omega⟩
      split at h
      · cases h
      rename_i y ts1 h1
      obtain ⟨c1, c2⟩ := ends_ok t1 h1
      injection h with h; injection h with h1 h2; subst h2
      exact ⟨c1, by omega⟩

theorem stmt_fuel : ∀ f : Nat,
    (∀ d ts, EndL ts → 12 * ts.length + 10 ≤ f → blockS f d ts ≠ .error outE) ∧
    (∀ d acc ts, EndL ts → 12 * ts.length + 12 ≤ f → stmtsS f d acc ts ≠ .error outE) ∧
    (∀ d a ts, EndL ts → 12 * ts.length + 10 ≤ f → chooseS f d a ts ≠ .error outE) ∧
    (∀ d a ts, EndL ts → 12 * ts.length + 10 ≤ f → forS f d a ts ≠ .error outE) ∧
    (∀ d ts, EndL ts → 12 * ts.length + 10 ≤ f → stmtS f d ts ≠ .error outE)
  | 0 => ⟨by intros; omega, by intros; omega, by intros; omega, by intros; omega, by intros; omega⟩
  | f + 1 => by
    obtain ⟨hb, hl, hc, hf, hs⟩ := stmt_fuel f
    obtain ⟨ob, ol, oc, of', os⟩ := stmt_ok f
    refine ⟨?_, ?_, ?_, ?_, ?_⟩
    · intro d ts he hn
      unfold blockS
      split
      · rename_i e h1; intro h; injection h with h; subst h; exact openT_err h1
      rename_i ts1 h1
      obtain ⟨a1, a2, _⟩ := openT_ok he h1
      split
      · rename_i e h1; intro h; injection h with h; subst h; exact hl _ _ _ a1 (by omega) h1
      rename_i l ts2 h2
      obtain ⟨b1, b2⟩ := ol _ _ _ _ _ a1 h2
      split
      · rename_i e h1; intro h; injection h with h; subst h; exact takeT_err h1
      · simp
    · intro d acc ts he hn
      unfold stmtsS
      split
      · simp
      split
      · rename_i e h1; intro h; injection h with h; subst h; exact hs _ _ he (by omega) h1
      rename_i y ts1 h1
      obtain ⟨a1, a2⟩ := os _ _ _ _ he h1
      exact hl _ _ _ a1 (by omega)
    · intro d a ts he hn
      unfold chooseS
      split
      · rename_i e h1; intro h; injection h with h; subst h; exact bin_fuel he (by omega) h1
      rename_i y ts1 h1
      obtain ⟨a1, a2⟩ := bin_ok he h1
      split
      · rename_i e h1; intro h; injection h with h; subst h; exact hb _ _ a1 (by omega) h1
      rename_i b ts2 h2
      obtain ⟨b1, b2⟩ := ob _ _ _ _ a1 h2
      split
      · rename_i hi
        obtain ⟨t1, t2⟩ := b1.tail (isT_kind hi)
        split
        · rename_i e h1; intro h; injection h with h; subst h; exact hb _ _ t1 (by omega) h1
        · simp
      · simp
    · intro d a ts he hn
      unfold forS
      split
      · rename_i e h1; intro h; injection h with h; subst h; exact bin_fuel he (by omega) h1
      rename_i y ts1 h1
      obtain ⟨a1, a2⟩ := bin_ok he h1
      split
      · rename_i e h1; intro h; injection h with h; subst h; exact hb _ _ a1 (by omega) h1
      · simp
    · intro d ts he hn
      unfold stmtS
      split
      · exact assign_fuel he (by omega)
      rename_i hw
      obtain ⟨t1, t2⟩ := wordKind_tail he hw
      split
      · exact declare_fuel t1 (by omega)
      split
      · exact hc _ _ _ t1 (by omega)
      split
      · exact hf _ _ _ t1 (by omega)
      split
      · exact read_fuel
      split
      · exact call_fuel t1 (by omega)
      split
      · rename_i e h1; intro h; injection h with h; subst h; exact ends_fuel t1 (by omega) h1
      · simp

theorem array_ok {ts r : List Tok} {x : Item} (he : EndL ts) (h : arrayS ts = .ok (x, r)) : EndL r ∧ r.length < ts.length := by
  unfold arrayS at h
  split at h
  · cases h
  rename_i ts1 h1
  obtain ⟨a1, a2, _⟩ := takeT_ok he h1
  split at h
  · cases h
  rename_i t ts2 h2
  obtain ⟨b1, b2, _⟩ := nameT_ok a1 h2
  split at h
  · cases h
  rename_i ts3 h3
  obtain ⟨c1, c2, _⟩ := takeT_ok b1 h3
  split at h
  · rename_i hk
    obtain ⟨k1, k2⟩ := c1.tail (by omega)
    split at h
    · cases h
    rename_i ts4 h4
    obtain ⟨d1, d2, _⟩ := takeT_ok k1 h4
    split at h
    · cases h
    rename_i ts5 h5
    obtain ⟨e1, e2, _⟩ := takeT_ok d1 h5
    injection h with h; injection h with h1 h2; subst h2
    exact ⟨e1, by omega⟩
  · cases h
theorem array_fuel {ts : List Tok} : arrayS ts ≠ .error outE := by
  unfold arrayS
  split
  · rename_i e h1; intro h; injection h with h; subst h; exact takeT_err h1
  split
  · rename_i e h1; intro h; injection h with h; subst h; exact nameT_err h1
  split
  · rename_i e h1; intro h; injection h with h; subst h; exact takeT_err h1
  split
  · split
    · rename_i e h1; intro h; injection h with h; subst h; exact takeT_err h1
    split
    · rename_i e h1; intro h; injection h with h; subst h; exact takeT_err h1
    · simp
  · simp [outE]
theorem func_ok {f : Nat} {ts r : List Tok} {x : Item} (he : EndL ts) (h : funcS f ts = .ok (x, r)) : EndL r ∧ r.length < ts.length := by
  unfold funcS at h
  split at h
  · cases h
  rename_i ts1 h1
  obtain ⟨a1, a2, _⟩ := takeT_ok he h1
  split at h
  · cases h
  rename_i t ts2 h2
  obtain ⟨b1, b2, _⟩ := nameT_ok a1 h2
  split at h
  · cases h
  rename_i ts3 h3
  obtain ⟨c1, c2, _⟩ := takeT_ok b1 h3
  split at h
  · cases h
  rename_i l ts4 h4
  obtain ⟨d1, d2⟩ := pars_ok _ _ _ _ _ _ c1 h4
  split at h
  · cases h
  rename_i ts5 h5
  obtain ⟨e1, e2, _⟩ := takeT_ok d1 h5
  split at h
  · cases h
  rename_i b ts6 h6
  obtain ⟨f1, f2⟩ := (stmt_ok f).1 _ _ _ _ e1 h6
  injection h with h; injection h with h1 h2; subst h2
  exact ⟨f1, by omega⟩
theorem func_fuel {f : Nat} {ts : List Tok} (he : EndL ts) (hn : 12 * ts.length + 10 ≤ f) : funcS f ts ≠ .error outE := by
  unfold funcS
  split
  · rename_i e h1; intro h; injection h with h; subst h; exact takeT_err h1
  rename_i ts1 h1
  obtain ⟨a1, a2, _⟩ := takeT_ok he h1
  split
  · rename_i e h1; intro h; injection h with h; subst h; exact nameT_err h1
  rename_i t ts2 h2
  obtain ⟨b1, b2, _⟩ := nameT_ok a1 h2
  split
  · rename_i e h1; intro h; injection h with h; subst h; exact takeT_err h1
  rename_i ts3 h3
  obtain ⟨c1, c2, _⟩ := takeT_ok b1 h3
  split
  · rename_i e h1; intro h; injection h with h; subst h; exact pars_fuel _ _ _ _ c1 (by omega) h1
  rename_i l ts4 h4
  obtain ⟨d1, d2⟩ := pars_ok _ _ _ _ _ _ c1 h4
  split
  · rename_i e h1; intro h; injection h with h; subst h; exact takeT_err h1
  rename_i ts5 h5
  obtain ⟨e1, e2, _⟩ := takeT_ok d1 h5
  split
  · rename_i e h1; intro h; injection h with h; subst h; exact (stmt_fuel f).1 _ _ e1 (by omega) h1
  · simp
theorem parts_fuel : ∀ (f : Nat) (acc : List Item) (ts : List Tok), EndL ts → 12 * ts.length + 12 ≤ f → partsS f acc ts ≠ .error outE
  | 0, _, _, _, h => by omega
  | f + 1, acc, ts, he, hn => by
    unfold partsS
    split
    · simp
    by_cases hv : isT [118, 97, 114] ts = true
    · rw [if_pos hv]
      split
      · rename_i e h1; intro h; injection h with h; subst h; exact array_fuel h1
      rename_i x ts1 h1
      obtain ⟨a1, a2⟩ := array_ok he h1
      exact parts_fuel f _ _ a1 (by omega)
    · rw [if_neg hv]
      split
      · rename_i e h1; intro h; injection h with h; subst h; exact func_fuel he (by omega) h1
      rename_i x ts1 h1
      obtain ⟨a1, a2⟩ := func_ok he h1
      exact parts_fuel f _ _ a1 (by omega)
theorem prog_fuel {ts : List Tok} (he : EndL ts) : progS ts ≠ .error outE := by
  unfold progS
  split
  · rename_i e h1; intro h; injection h with h; subst h; exact parts_fuel _ _ _ he (by omega) h1
  · simp

theorem lexFrom_end : ∀ (f : Nat) (l : List UInt8) (p : Nat) (acc r : List Tok), (∀ t ∈ acc, t.kind ≠ 5) → lexFrom f l p acc = .ok r → EndL r := by
  have snoc : ∀ (acc : List Tok) (e : Tok), (∀ t ∈ acc, t.kind ≠ 5) → e.kind = 5 → EndL (acc ++ [e]) := by
    intro acc e ha h5
    induction acc with
    | nil => exact .one _ h5
    | cons t r ih => exact .more _ _ (ha t (by simp)) (ih (fun u hu => ha u (by simp [hu])))
  intro f
  induction f with
  | zero => intro l p acc r ha h; unfold lexFrom at h; injection h with h; subst h; exact snoc _ _ ha rfl
  | succ f ih =>
    intro l p acc r ha h
    cases l with
    | nil => unfold lexFrom at h; injection h with h; subst h; exact snoc _ _ ha rfl
    | cons c l =>
      unfold lexFrom at h
      split at h
      · exact ih _ _ _ _ ha h
      split at h
      · cases h
      rename_i k n v ht
      refine ih _ _ _ _ ?_ h
      intro t hm
      rw [List.mem_append, List.mem_singleton] at hm
      rcases hm with hm | rfl
      · exact ha t hm
      · show k ≠ 5
        unfold tokAt at ht
        split at ht
        · cases ht
        split at ht
        · injection ht with ht; injection ht with h1 h2; subst h1; split <;> omega
        split at ht
        · split at ht
          · injection ht with ht; injection ht with h1 h2; omega
          · cases ht
        split at ht
        · cases ht
        · injection ht with ht; injection ht with h1 h2; omega
theorem lexS_end {l : List UInt8} {ts : List Tok} (h : lexS l = .ok ts) : EndL ts := lexFrom_end _ _ _ _ _ (by simp) h
end Go.Proofs.YtkkeocnnecegbaaGreatDoor

/- Plain law of parse: what is printed, and read again, is the same tree but for places. By an AI agent. -/
namespace Go.Proofs.YtkkeocnnecegbaaGreatDoor

abbrev Tk := Nat × List UInt8 × Int
def tk (t : Tok) : Tk := (t.kind, t.text, t.n)
def tks (ts : List Tok) : List Tk := ts.map tk
def mk4 (x : List UInt8) : Tk := (4, x, 0)
def wd (x : List UInt8) : Tk := (2, x, 0)
def nm (x : List UInt8) : Tk := (1, x, 0)
def nb (n : Int) : Tk := (3, Lib.itoa n, n)

mutual
def erase : Item → Item
  | .mk k t n _ ks => .mk k t n 0 (eraseL ks)
def eraseL : List Item → List Item
  | [] => []
  | x :: r => erase x :: eraseL r
end
def kindI : Item → Nat
  | .mk k _ _ _ _ => k
def numI : Item → Int
  | .mk _ _ n _ _ => n
/-- An expression's tokens; in brackets, if it binds less than a level. -/
def outX : Nat → Item → List Tk
  | _, .mk 17 _ n _ _ => [nb n]
  | _, .mk 18 t _ _ _ => [nm t]
  | _, .mk 19 t _ _ [x] => nm t :: mk4 [91] :: (outX 1 x ++ [mk4 [93]])
  | _, .mk 20 _ n _ [x] => mk4 (if n = 1 then [45] else [33]) :: outX 4 x
  | least, .mk 21 _ n _ [x, y] =>
    if levelN n.toNat < least then mk4 [40] :: (outX (levelN n.toNat) x ++ mk4 (markText n.toNat) :: outX (levelN n.toNat + 1) y ++ [mk4 [41]])
    else outX (levelN n.toNat) x ++ mk4 (markText n.toNat) :: outX (levelN n.toNat + 1) y
  | _, _ => []
/-- How many levels it opens, as it is printed. -/
def depX : Nat → Item → Nat
  | _, .mk 19 _ _ _ [x] => depX 1 x + 1
  | _, .mk 20 _ _ _ [x] => depX 4 x + 1
  | least, .mk 21 _ n _ [x, y] =>
    if levelN n.toNat < least then max (depX (levelN n.toNat) x) (depX (levelN n.toNat + 1) y) + 1
    else max (depX (levelN n.toNat) x) (depX (levelN n.toNat + 1) y)
  | _, _ => 0
/-- A shaped expression. -/
def WX : Item → Prop
  | .mk 17 t _ _ ks => t = [] ∧ ks = []
  | .mk 18 _ n _ ks => n = 0 ∧ ks = []
  | .mk 19 _ n _ [x] => n = 0 ∧ WX x
  | .mk 20 t n _ [x] => t = [] ∧ (n = 1 ∨ n = 2) ∧ WX x
  | .mk 21 t n _ [x, y] => t = [] ∧ (1 ≤ n ∧ n ≤ 14) ∧ WX x ∧ WX y
  | _ => False

/-- Nothing here goes on with an expression of a level. -/
def Stop (of : Nat) (ts : List Tok) : Prop := (∀ l, of ≤ l → l ≤ 3 → markOf l ts = 0) ∧ isT [91] ts = false
theorem Stop.up {of : Nat} {ts : List Tok} (h : Stop of ts) : Stop (of + 1) ts := ⟨fun l h1 h2 => h.1 l (by omega) h2, h.2⟩

theorem tks_cons {as : List Tok} {x : Tk} {l : List Tk} (h : tks as = x :: l) : ∃ t r, as = t :: r ∧ tk t = x ∧ tks r = l := by
  cases as with
  | nil => cases h
  | cons t r => injection h with h1 h2; exact ⟨t, r, rfl, h1, h2⟩
theorem tks_app {as : List Tok} {a b : List Tk} (h : tks as = a ++ b) : ∃ x y, as = x ++ y ∧ tks x = a ∧ tks y = b := List.map_eq_append_iff.1 h
theorem tk_is {t : Tok} {x : Tk} (h : tk t = x) : t.kind = x.1 ∧ t.text = x.2.1 ∧ t.n = x.2.2 := by subst h; exact ⟨rfl, rfl, rfl⟩
theorem isT_mk {t : Tok} {x : List UInt8} (h : tk t = mk4 x) (y : List UInt8) (r : List Tok) : isT y (t :: r) = (x == y) := by
  obtain ⟨h1, h2, _⟩ := tk_is h
  simp only [isT, nowKind, nowText, h1, h2, mk4]; rfl
theorem isT_wd {t : Tok} {x : List UInt8} (h : tk t = wd x) (y : List UInt8) (r : List Tok) : isT y (t :: r) = (x == y) := by
  obtain ⟨h1, h2, _⟩ := tk_is h
  simp only [isT, nowKind, nowText, h1, h2, wd]; rfl
theorem isT_nm {t : Tok} {x : List UInt8} (h : tk t = nm x) (y : List UInt8) (r : List Tok) : isT y (t :: r) = false := by
  obtain ⟨h1, h2, _⟩ := tk_is h
  simp only [isT, nowKind, h1, nm]; rfl
theorem isT_nb {t : Tok} {x : Int} (h : tk t = nb x) (y : List UInt8) (r : List Tok) : isT y (t :: r) = false := by
  obtain ⟨h1, h2, _⟩ := tk_is h
  simp only [isT, nowKind, h1, nb]; rfl
theorem take_mk {t : Tok} {x : List UInt8} (h : tk t = mk4 x) (r : List Tok) : takeT x (t :: r) = .ok r := by
  unfold takeT; rw [if_pos (by rw [isT_mk h]; simp)]; rfl
theorem take_wd {t : Tok} {x : List UInt8} (h : tk t = wd x) (r : List Tok) : takeT x (t :: r) = .ok r := by
  unfold takeT; rw [if_pos (by rw [isT_wd h]; simp)]; rfl
theorem open_mk {t : Tok} {x : List UInt8} {d : Nat} (h : tk t = mk4 x) (hd : d < 64) (r : List Tok) : openT x d (t :: r) = .ok r := by
  unfold openT; rw [if_neg (by simp; omega)]; exact take_mk h r
theorem name_nm {t : Tok} {x : List UInt8} (h : tk t = nm x) (r : List Tok) : nameT (t :: r) = .ok (x, r) := by
  obtain ⟨h1, h2, _⟩ := tk_is h
  unfold nameT
  rw [if_pos (by simp only [nowKind, h1, nm])]
  simp only [nowText, h2, nm]; rfl

/-- The marks, by number. -/
theorem mark_of {n : Nat} (h1 : 1 ≤ n) (h2 : n ≤ 14) {t : Tok} (h : tk t = mk4 (markText n)) (r : List Tok) (l : Nat) : markOf l (t :: r) = if levelN n = l then n else 0 := by
  have hi : ∀ y, isT y (t :: r) = (markText n == y) := fun y => isT_mk h y r
  unfold markOf
  simp only [binMarks, markFrom, hi]
  have : n = 1 ∨ n = 2 ∨ n = 3 ∨ n = 4 ∨ n = 5 ∨ n = 6 ∨ n = 7 ∨ n = 8 ∨ n = 9 ∨ n = 10 ∨ n = 11 ∨ n = 12 ∨ n = 13 ∨ n = 14 := by omega
  rcases this with rfl | rfl | rfl | rfl | rfl | rfl | rfl | rfl | rfl | rfl | rfl | rfl | rfl | rfl <;> simp [markText, binMarks, levelN]
theorem level_range (n : Nat) : 1 ≤ levelN n ∧ levelN n ≤ 3 := by unfold levelN; split <;> (try split) <;> omega
theorem stop_mark {n : Nat} (h1 : 1 ≤ n) (h2 : n ≤ 14) {t : Tok} (h : tk t = mk4 (markText n)) (r : List Tok) : Stop (levelN n + 1) (t :: r) := by
  refine ⟨fun l hl1 hl2 => ?_, ?_⟩
  · rw [mark_of h1 h2 h, if_neg (by omega)]
  · rw [isT_mk h]
    have : n = 1 ∨ n = 2 ∨ n = 3 ∨ n = 4 ∨ n = 5 ∨ n = 6 ∨ n = 7 ∨ n = 8 ∨ n = 9 ∨ n = 10 ∨ n = 11 ∨ n = 12 ∨ n = 13 ∨ n = 14 := by omega
    rcases this with rfl | rfl | rfl | rfl | rfl | rfl | rfl | rfl | rfl | rfl | rfl | rfl | rfl | rfl <;> decide
/-- A mark that is none of Binary's stops. -/
theorem stop_other {x : List UInt8} (hx : ∀ m ∈ binMarks, (x == m) = false) (hb : (x == [91]) = false) {t : Tok} {r : List Tok} (h : ∀ y, isT y (t :: r) = (x == y)) (of : Nat) : Stop of (t :: r) := by
  refine ⟨fun l _ _ => ?_, by rw [h]; exact hb⟩
  unfold markOf
  have : ∀ (ms : List (List UInt8)) (n : Nat), (∀ m ∈ ms, (x == m) = false) → markFrom l (t :: r) n ms = 0 := by
    intro ms
    induction ms with
    | nil => intro n _; rfl
    | cons m r' ih =>
      intro n hm
      unfold markFrom
      rw [if_neg (by rw [h, hm m (by simp)]; simp)]
      exact ih _ (fun m' h' => hm m' (by simp [h']))
  exact this _ _ hx
theorem stop_close {t : Tok} {r : List Tok} (h : tk t = mk4 [41]) (of : Nat) : Stop of (t :: r) := stop_other (x := [41]) (by decide) (by decide) (fun y => isT_mk h y r) of
theorem stop_brack {t : Tok} {r : List Tok} (h : tk t = mk4 [93]) (of : Nat) : Stop of (t :: r) := stop_other (x := [93]) (by decide) (by decide) (fun y => isT_mk h y r) of
theorem stop_semi {t : Tok} {r : List Tok} (h : tk t = mk4 [59]) (of : Nat) : Stop of (t :: r) := stop_other (x := [59]) (by decide) (by decide) (fun y => isT_mk h y r) of
theorem stop_comma {t : Tok} {r : List Tok} (h : tk t = mk4 [44]) (of : Nat) : Stop of (t :: r) := stop_other (x := [44]) (by decide) (by decide) (fun y => isT_mk h y r) of
theorem stop_brace {t : Tok} {r : List Tok} (h : tk t = mk4 [123]) (of : Nat) : Stop of (t :: r) := stop_other (x := [123]) (by decide) (by decide) (fun y => isT_mk h y r) of

/-- What is read at a level, ahead of its loop. -/
def QX (x : Item) (of : Nat) : Prop := ∀ (d f : Nat) (as rest : List Tok), tks as = outX of x → d + depX of x ≤ 64 → Stop (of + 1) rest → 12 * (as.length + rest.length) + 8 ≤ f + of →
  ∃ f' x', 12 * rest.length + 1 ≤ f' ∧ binS f of d (as ++ rest) = loopS f' of d (nowAt (as ++ rest)) x' rest ∧ erase x' = erase x
def PX (x : Item) (of : Nat) : Prop := ∀ (d f : Nat) (as rest : List Tok), tks as = outX of x → d + depX of x ≤ 64 → Stop of rest → 12 * (as.length + rest.length) + 8 ≤ f + of →
  ∃ x', binS f of d (as ++ rest) = .ok (x', rest) ∧ erase x' = erase x
def UX (x : Item) : Prop := ∀ (d f : Nat) (as rest : List Tok), tks as = outX 4 x → d + depX 4 x ≤ 64 → isT [91] rest = false → 12 * (as.length + rest.length) + 3 ≤ f →
  ∃ x', unS f d (as ++ rest) = .ok (x', rest) ∧ erase x' = erase x

theorem QX.toP {x : Item} {of : Nat} (h : QX x of) (ho : of ≤ 3) : PX x of := by
  intro d f as rest h1 h2 h3 h4
  obtain ⟨f', x', g1, g2, g3⟩ := h d f as rest h1 h2 h3.up h4
  refine ⟨x', ?_, g3⟩
  rw [g2]
  obtain ⟨g, rfl⟩ : ∃ g, f' = g + 1 := ⟨f' - 1, by omega⟩
  unfold loopS
  rw [if_pos (h3.1 of (Nat.le_refl _) ho)]
theorem UX.toP {x : Item} (h : UX x) : PX x 4 := by
  intro d f as rest h1 h2 h3 h4
  obtain ⟨g, rfl⟩ : ∃ g, f = g + 1 := ⟨f - 1, by omega⟩
  unfold binS
  rw [if_pos (by omega)]
  exact h d g as rest h1 h2 h3.2 (by omega)
/-- One level down. -/
theorem PX.toQ {x : Item} {of : Nat} (h : PX x (of + 1)) (ho : of ≤ 3) (e : outX of x = outX (of + 1) x) (e2 : depX of x = depX (of + 1) x) (hne : outX of x ≠ []) : QX x of := by
  intro d f as rest h1 h2 h3 h4
  have hpos : 0 < as.length := by
    cases as with
    | nil => exact absurd h1.symm hne
    | cons _ _ => simp
  obtain ⟨g, rfl⟩ : ∃ g, f = g + 1 := ⟨f - 1, by omega⟩
  obtain ⟨x', g1, g2⟩ := h d g as rest (by rw [h1, e]) (by rw [← e2]; exact h2) h3 (by omega)
  refine ⟨g, x', by omega, ?_, g2⟩
  unfold binS
  rw [if_neg (by omega), g1]

theorem WX_cases {x : Item} (h : WX x) :
    (∃ n a, x = .mk 17 [] n a []) ∨ (∃ t a, x = .mk 18 t 0 a []) ∨ (∃ t a y, x = .mk 19 t 0 a [y] ∧ WX y) ∨
    (∃ n a y, x = .mk 20 [] n a [y] ∧ (n = 1 ∨ n = 2) ∧ WX y) ∨ (∃ (n : Nat) (a : Nat) (y z : Item), x = .mk 21 [] (n : Int) a [y, z] ∧ 1 ≤ n ∧ n ≤ 14 ∧ WX y ∧ WX z) := by
  unfold WX at h
  split at h
  · obtain ⟨rfl, rfl⟩ := h; exact Or.inl ⟨_, _, rfl⟩
  · obtain ⟨rfl, rfl⟩ := h; exact Or.inr (Or.inl ⟨_, _, rfl⟩)
  · obtain ⟨rfl, h⟩ := h; exact Or.inr (Or.inr (Or.inl ⟨_, _, _, rfl, h⟩))
  · obtain ⟨rfl, h1, h2⟩ := h; exact Or.inr (Or.inr (Or.inr (Or.inl ⟨_, _, _, rfl, h1, h2⟩)))
  · rename_i t n a y z
    obtain ⟨rfl, ⟨h0, h1⟩, h2, h3⟩ := h
    obtain ⟨m, rfl⟩ := Int.eq_ofNat_of_zero_le (show 0 ≤ n by omega)
    exact Or.inr (Or.inr (Or.inr (Or.inr ⟨m, _, _, _, rfl, by omega, by omega, h2, h3⟩)))
  · exact h.elim
theorem UX.all {x : Item} (h : UX x) (e : ∀ of, outX of x = outX 4 x) (e2 : ∀ of, depX of x = depX 4 x) (hne : outX 4 x ≠ []) : ∀ of, of ≤ 3 → QX x of := by
  have q3 : QX x 3 := h.toP.toQ (by omega) (e 3) (e2 3) (by rw [e]; exact hne)
  have q2 : QX x 2 := (q3.toP (by omega)).toQ (by omega) ((e 2).trans (e 3).symm) ((e2 2).trans (e2 3).symm) (by rw [e]; exact hne)
  have q1 : QX x 1 := (q2.toP (by omega)).toQ (by omega) ((e 1).trans (e 2).symm) ((e2 1).trans (e2 2).symm) (by rw [e]; exact hne)
  have q0 : QX x 0 := (q1.toP (by omega)).toQ (by omega) ((e 0).trans (e 1).symm) ((e2 0).trans (e2 1).symm) (by rw [e]; exact hne)
  intro of ho
  match of, ho with
  | 0, _ => exact q0
  | 1, _ => exact q1
  | 2, _ => exact q2
  | 3, _ => exact q3

theorem backX_sized : ∀ (N : Nat) (x : Item), sizeI x ≤ N → WX x → (∀ of, of ≤ 3 → QX x of) ∧ UX x := by
  intro N
  induction N with
  | zero => intro x h; have := sizeI_pos x; omega
  | succ N ih =>
    intro x hN hw
    rcases WX_cases hw with ⟨n, a, rfl⟩ | ⟨t, a, rfl⟩ | ⟨t, a, y, rfl, hy⟩ | ⟨n, a, y, rfl, hn, hy⟩ | ⟨n, a, y, z, rfl, hn1, hn2, hy, hz⟩
    · have hu : UX (.mk 17 [] n a []) := by
        intro d f as rest h1 h2 h3 h4
        obtain ⟨u, r, rfl, e1, e2⟩ := tks_cons h1
        obtain rfl : r = [] := by cases r with | nil => rfl | cons _ _ => cases e2
        obtain ⟨g, rfl⟩ : ∃ g, f = g + 2 := ⟨f - 2, by simp at h4; omega⟩
        obtain ⟨k1, k2, k3⟩ := tk_is e1
        refine ⟨.mk 17 [] n u.at' [], ?_, rfl⟩
        unfold unS
        simp only [List.cons_append, List.nil_append, isT_nb e1, Bool.false_eq_true, if_false]
        unfold facS
        rw [if_pos (by simpa [nowKind, nb] using k1)]
        simp only [nowN, k3, nowAt, List.tail_cons]; rfl
      exact ⟨hu.all (fun _ => rfl) (fun _ => rfl) (by simp [outX]), hu⟩
    · have hu : UX (.mk 18 t 0 a []) := by
        intro d f as rest h1 h2 h3 h4
        obtain ⟨u, r, rfl, e1, e2⟩ := tks_cons h1
        obtain rfl : r = [] := by cases r with | nil => rfl | cons _ _ => cases e2
        obtain ⟨g, rfl⟩ : ∃ g, f = g + 2 := ⟨f - 2, by simp at h4; omega⟩
        obtain ⟨k1, k2, k3⟩ := tk_is e1
        refine ⟨.mk 18 t 0 u.at' [], ?_, rfl⟩
        unfold unS
        simp only [List.cons_append, List.nil_append, isT_nm e1, Bool.false_eq_true, if_false]
        unfold facS
        rw [if_neg (by simp [nowKind, k1, nm]), if_pos (by simpa [nowKind, nm] using k1), if_neg (by simp [h3])]
        simp only [nowText, k2, nowAt, List.tail_cons]; rfl
      exact ⟨hu.all (fun _ => rfl) (fun _ => rfl) (by simp [outX]), hu⟩
    · have hs : sizeI y ≤ N := by simp only [sizeI, sizeL] at hN; omega
      obtain ⟨iq, iu⟩ := ih y hs hy
      have hu : UX (.mk 19 t 0 a [y]) := by
        intro d f as rest h1 h2 h3 h4
        simp only [outX] at h1
        obtain ⟨u, r, rfl, e1, e2⟩ := tks_cons h1
        obtain ⟨b, r, rfl, e3, e4⟩ := tks_cons e2
        obtain ⟨ys, r, rfl, e5, e6⟩ := tks_app e4
        obtain ⟨c, r, rfl, e7, e8⟩ := tks_cons e6
        obtain rfl : r = [] := by cases r with | nil => rfl | cons _ _ => cases e8
        simp only [List.length_cons, List.length_append, List.length_nil, depX] at h4 h2
        obtain ⟨g, rfl⟩ : ∃ g, f = g + 2 := ⟨f - 2, by omega⟩
        obtain ⟨k1, k2, k3⟩ := tk_is e1
        obtain ⟨x', p1, p2⟩ := (iq 1 (by omega)).toP (by omega) (d + 1) g ys (c :: rest) e5 (by omega) (stop_brack e7 1) (by simp only [List.length_cons]; omega)
        refine ⟨.mk 19 t 0 u.at' [x'], ?_, by simp [erase, eraseL, p2]⟩
        unfold unS
        simp only [List.cons_append, List.append_assoc, List.nil_append, isT_nm e1, Bool.false_eq_true, if_false]
        unfold facS
        rw [if_neg (by simp [nowKind, k1, nm]), if_pos (by simpa [nowKind, nm] using k1), if_pos (by simp only [List.tail_cons]; rw [isT_mk e3]; rfl)]
        simp only [List.tail_cons, open_mk e3 (show d < 64 by omega), p1, take_mk e7, nowText, k2, nowAt]; rfl
      exact ⟨hu.all (fun _ => rfl) (fun _ => rfl) (by simp [outX]), hu⟩
    · have hs : sizeI y ≤ N := by simp only [sizeI, sizeL] at hN; omega
      obtain ⟨iq, iu⟩ := ih y hs hy
      have hu : UX (.mk 20 [] n a [y]) := by
        intro d f as rest h1 h2 h3 h4
        simp only [outX] at h1
        obtain ⟨u, r, rfl, e1, e2⟩ := tks_cons h1
        simp only [List.length_cons, depX] at h4 h2
        obtain ⟨g, rfl⟩ : ∃ g, f = g + 1 := ⟨f - 1, by omega⟩
        obtain ⟨x', p1, p2⟩ := iu (d + 1) g r rest e2 (by omega) h3 (by omega)
        refine ⟨.mk 20 [] n u.at' [x'], ?_, by simp [erase, eraseL, p2]⟩
        unfold unS
        rcases hn with rfl | rfl
        · simp only [if_pos] at e1
          simp only [List.cons_append]
          rw [if_pos (by rw [isT_mk e1]; rfl)]
          simp only [open_mk e1 (show d < 64 by omega), p1, nowAt]
        · rw [if_neg (by decide)] at e1
          simp only [List.cons_append]
          rw [if_neg (by rw [isT_mk e1]; decide), if_pos (by rw [isT_mk e1]; rfl)]
          simp only [open_mk e1 (show d < 64 by omega), p1, nowAt]
      exact ⟨hu.all (fun _ => rfl) (fun _ => rfl) (by simp [outX]), hu⟩
    · have hsy : sizeI y ≤ N := by simp only [sizeI, sizeL] at hN; omega
      have hsz : sizeI z ≤ N := by simp only [sizeI, sizeL] at hN; omega
      obtain ⟨yq, _⟩ := ih y hsy hy
      obtain ⟨zq, zu⟩ := ih z hsz hz
      obtain ⟨l1, l3⟩ := level_range n
      have zp : PX z (levelN n + 1) := by
        by_cases h3 : levelN n = 3
        · rw [h3]; exact zu.toP
        · exact (zq _ (by omega)).toP (by omega)
      -- without brackets
      have qk : QX (.mk 21 [] n a [y, z]) (levelN n) := by
        intro d f as rest h1 h2 h3 h4
        simp only [outX, depX, Int.toNat_natCast, Nat.lt_irrefl, if_false] at h1 h2
        obtain ⟨ys, r, rfl, e1, e2⟩ := tks_app h1
        obtain ⟨m, zs, rfl, e3, e4⟩ := tks_cons e2
        simp only [List.length_append, List.length_cons] at h4
        obtain ⟨f', y', g1, g2, g3⟩ := yq (levelN n) l3 d f ys (m :: (zs ++ rest)) e1 (by omega) (stop_mark hn1 hn2 e3 _) (by simp only [List.length_append, List.length_cons]; omega)
        simp only [List.length_append, List.length_cons] at g1
        obtain ⟨g, rfl⟩ : ∃ g, f' = g + 1 := ⟨f' - 1, by omega⟩
        obtain ⟨z', p1, p2⟩ := zp d g zs rest e4 (by omega) h3 (by omega)
        refine ⟨g, .mk 21 [] n (nowAt (ys ++ m :: zs ++ rest)) [y', z'], by omega, ?_, by simp [erase, eraseL, g3, p2]⟩
        have hm := mark_of hn1 hn2 e3 (zs ++ rest) (levelN n)
        rw [if_pos rfl] at hm
        rw [List.append_assoc, List.cons_append, g2]
        conv => lhs; unfold loopS
        rw [hm, if_neg (by omega)]
        simp only [List.tail_cons, p1]
      have eo : ∀ of, of ≤ levelN n → outX of (.mk 21 [] n a [y, z]) = outX (levelN n) (.mk 21 [] n a [y, z]) ∧ depX of (.mk 21 [] n a [y, z]) = depX (levelN n) (.mk 21 [] n a [y, z]) := by
        intro of ho
        simp only [outX, depX, Int.toNat_natCast, Nat.lt_irrefl, if_false]
        rw [if_neg (by omega), if_neg (by omega)]
        exact ⟨rfl, rfl⟩
      have hne : ∀ of, outX of (.mk 21 [] n a [y, z]) ≠ [] := by
        intro of
        simp only [outX]
        split
        · exact List.cons_ne_nil _ _
        · intro h; have := (List.append_eq_nil_iff.1 h).2; exact List.cons_ne_nil _ _ this
      have qlow : ∀ j, j ≤ levelN n → QX (.mk 21 [] n a [y, z]) (levelN n - j) := by
        intro j
        induction j with
        | zero => intro _; exact qk
        | succ j ihj =>
          intro hj
          have hq := ihj (by omega)
          have e : levelN n - j = levelN n - (j + 1) + 1 := by omega
          rw [e] at hq
          have ea := eo (levelN n - (j + 1)) (by omega)
          have eb := eo (levelN n - (j + 1) + 1) (by omega)
          exact (hq.toP (by omega)).toQ (by omega) (ea.1.trans eb.1.symm) (ea.2.trans eb.2.symm) (hne _)
      have ql : ∀ of, of ≤ levelN n → QX (.mk 21 [] n a [y, z]) of := by
        intro of ho
        have := qlow (levelN n - of) (by omega)
        rwa [show levelN n - (levelN n - of) = of by omega] at this
      -- in brackets
      have eh : ∀ of, levelN n < of → outX of (.mk 21 [] n a [y, z]) = mk4 [40] :: (outX 1 (.mk 21 [] n a [y, z]) ++ [mk4 [41]]) ∧ depX of (.mk 21 [] n a [y, z]) = depX 1 (.mk 21 [] n a [y, z]) + 1 := by
        intro of ho
        simp only [outX, depX, Int.toNat_natCast]
        rw [if_pos ho, if_pos ho, if_neg (by omega), if_neg (by omega)]
        simp
      have hu : UX (.mk 21 [] n a [y, z]) := by
        intro d f as rest h1 h2 h3 h4
        rw [(eh 4 (by omega)).1] at h1
        rw [(eh 4 (by omega)).2] at h2
        obtain ⟨u, r, rfl, e1, e2⟩ := tks_cons h1
        obtain ⟨ys, r, rfl, e3, e4⟩ := tks_app e2
        obtain ⟨c, r, rfl, e5, e6⟩ := tks_cons e4
        obtain rfl : r = [] := by cases r with | nil => rfl | cons _ _ => cases e6
        simp only [List.length_cons, List.length_append, List.length_nil] at h4
        obtain ⟨g, rfl⟩ : ∃ g, f = g + 2 := ⟨f - 2, by omega⟩
        obtain ⟨k1, k2, k3⟩ := tk_is e1
        obtain ⟨x', p1, p2⟩ := (ql 1 l1).toP (by omega) (d + 1) g ys (c :: rest) e3 (by omega) (stop_close e5 1) (by simp only [List.length_cons]; omega)
        refine ⟨x', ?_, p2⟩
        unfold unS
        simp only [List.cons_append, List.append_assoc, List.nil_append]
        rw [if_neg (by rw [isT_mk e1]; decide), if_neg (by rw [isT_mk e1]; decide)]
        unfold facS
        rw [if_neg (by simp [nowKind, k1, mk4]), if_neg (by simp [nowKind, k1, mk4])]
        simp only [open_mk e1 (show d < 64 by omega), p1, take_mk e5]
      refine ⟨fun of ho => ?_, hu⟩
      by_cases hle : of ≤ levelN n
      · exact ql of hle
      · have q3 : levelN n < 3 → QX (.mk 21 [] n a [y, z]) 3 := fun h => hu.toP.toQ (by omega) ((eh 3 h).1.trans (eh 4 (by omega)).1.symm) ((eh 3 h).2.trans (eh 4 (by omega)).2.symm) (hne _)
        have q2 : levelN n < 2 → QX (.mk 21 [] n a [y, z]) 2 := fun h => ((q3 (by omega)).toP (by omega)).toQ (by omega) ((eh 2 h).1.trans (eh 3 (by omega)).1.symm) ((eh 2 h).2.trans (eh 3 (by omega)).2.symm) (hne _)
        match of, ho, hle with
        | 0, _, h => omega
        | 1, _, h => omega
        | 2, _, h => exact q2 (by omega)
        | 3, _, h => exact q3 (by omega)
/-- WHAT AN EXPRESSION IS PRINTED AS IS READ AS IT. -/
theorem backX {x : Item} (h : WX x) {d f : Nat} {as rest : List Tok} (h1 : tks as = outX 1 x) (h2 : d + depX 1 x ≤ 64) (h3 : Stop 1 rest) (h4 : 12 * (as.length + rest.length) + 7 ≤ f) :
    ∃ x', binS f 1 d (as ++ rest) = .ok (x', rest) ∧ erase x' = erase x :=
  ((backX_sized _ x (Nat.le_refl _) h).1 1 (by omega)).toP (by omega) d f as rest h1 h2 h3 (by omega)
end Go.Proofs.YtkkeocnnecegbaaGreatDoor

/- Plain law of parse: what is printed, and read again, is the same tree but for places: statements, parts, the whole. By an AI agent. -/
namespace Go.Proofs.YtkkeocnnecegbaaGreatDoor

def textI : Item → List UInt8
  | .mk _ t _ _ _ => t
def outA : Bool → List Item → List Tk
  | _, [] => []
  | first, x :: r => (if first then [] else [mk4 [44]]) ++ (outX 1 x ++ outA false r)
def depA : List Item → Nat
  | [] => 0
  | x :: r => max (depX 1 x) (depA r)
def WXs : List Item → Prop
  | [] => True
  | x :: r => WX x ∧ WXs r
def outPs : Bool → List Item → List Tk
  | _, [] => []
  | first, x :: r => (if first then [] else [mk4 [44]]) ++ (nm (textI x) :: outPs false r)
/-- Parameters, or a callee: a name alone. -/
def WN (k : Nat) : Item → Prop
  | .mk k' _ n _ ks => k' = k ∧ n = 0 ∧ ks = []
mutual
def outS : Item → List Tk
  | .mk 5 _ _ _ l => mk4 [123] :: (outSs l ++ [mk4 [125]])
  | .mk 6 t _ _ [x] => wd [118, 97, 114] :: nm t :: mk4 [61] :: (outX 1 x ++ [mk4 [59]])
  | .mk 7 t _ _ [x] => nm t :: mk4 [61] :: (outX 1 x ++ [mk4 [59]])
  | .mk 8 t _ _ [x, y] => nm t :: mk4 [91] :: (outX 1 x ++ mk4 [93] :: mk4 [61] :: (outX 1 y ++ [mk4 [59]]))
  | .mk 9 _ _ _ [x, b] => wd [105, 102] :: (outX 1 x ++ outS b)
  | .mk 9 _ _ _ [x, b, c] => wd [105, 102] :: (outX 1 x ++ (outS b ++ wd [101, 108, 115, 101] :: outS c))
  | .mk 10 _ _ _ [x, b] => wd [102, 111, 114] :: (outX 1 x ++ outS b)
  | .mk 11 _ _ _ [x] => wd [114, 101, 116, 117, 114, 110] :: (outX 1 x ++ [mk4 [59]])
  | .mk 12 _ _ _ [x] => wd [112, 114, 105, 110, 116] :: (outX 1 x ++ [mk4 [59]])
  | .mk 13 _ _ _ [x] => wd [101, 120, 105, 116] :: (outX 1 x ++ [mk4 [59]])
  | .mk 14 t _ _ [] => [wd [114, 101, 97, 100], nm t, mk4 [59]]
  | .mk 15 t _ _ (c :: l) => wd [99, 97, 108, 108] :: nm t :: mk4 [61] :: nm (textI c) :: mk4 [40] :: (outA true l ++ [mk4 [41], mk4 [59]])
  | _ => []
def outSs : List Item → List Tk
  | [] => []
  | x :: r => outS x ++ outSs r
end
mutual
def depS : Item → Nat
  | .mk 5 _ _ _ l => depSs l + 1
  | .mk 8 _ _ _ [x, y] => max (depX 1 x + 1) (depX 1 y)
  | .mk 9 _ _ _ [x, b] => max (depX 1 x) (depS b)
  | .mk 9 _ _ _ [x, b, c] => max (depX 1 x) (max (depS b) (depS c))
  | .mk 10 _ _ _ [x, b] => max (depX 1 x) (depS b)
  | .mk 15 _ _ _ (_ :: l) => depA l
  | .mk _ _ _ _ [x] => depX 1 x
  | _ => 0
def depSs : List Item → Nat
  | [] => 0
  | x :: r => max (depS x) (depSs r)
end
/-- A shaped statement; a shaped block. -/
inductive WS : Bool → Item → Prop
  | block (a : Nat) (l : List Item) : (∀ x ∈ l, WS true x) → WS false (.mk 5 [] 0 a l)
  | declare (t : List UInt8) (a : Nat) (x : Item) : WX x → WS true (.mk 6 t 0 a [x])
  | assign (t : List UInt8) (a : Nat) (x : Item) : WX x → WS true (.mk 7 t 0 a [x])
  | store (t : List UInt8) (a : Nat) (x y : Item) : WX x → WX y → WS true (.mk 8 t 0 a [x, y])
  | if1 (a : Nat) (x b : Item) : WX x → WS false b → WS true (.mk 9 [] 0 a [x, b])
  | if2 (a : Nat) (x b c : Item) : WX x → WS false b → WS false c → WS true (.mk 9 [] 0 a [x, b, c])
  | for1 (a : Nat) (x b : Item) : WX x → WS false b → WS true (.mk 10 [] 0 a [x, b])
  | ret (k a : Nat) (x : Item) : k = 11 ∨ k = 12 ∨ k = 13 → WX x → WS true (.mk k [] 0 a [x])
  | read (t : List UInt8) (a : Nat) : WS true (.mk 14 t 0 a [])
  | call (t : List UInt8) (a : Nat) (u : List UInt8) (b : Nat) (l : List Item) : WXs l → WS true (.mk 15 t 0 a (.mk 16 u 0 b [] :: l))

theorem outX_ne {x : Item} (h : WX x) (of : Nat) : ∃ t r, outX of x = t :: r ∧ (t.1 = 1 ∨ t.1 = 3 ∨ t = mk4 [40] ∨ t = mk4 [45] ∨ t = mk4 [33]) := by
  have : ∀ (N : Nat) (x : Item), sizeI x ≤ N → WX x → ∀ of, ∃ t r, outX of x = t :: r ∧ (t.1 = 1 ∨ t.1 = 3 ∨ t = mk4 [40] ∨ t = mk4 [45] ∨ t = mk4 [33]) := by
    intro N
    induction N with
    | zero => intro x h; have := sizeI_pos x; omega
    | succ N ih =>
      intro x hN hw of
      rcases WX_cases hw with ⟨n, a, rfl⟩ | ⟨t, a, rfl⟩ | ⟨t, a, y, rfl, hy⟩ | ⟨n, a, y, rfl, hn, hy⟩ | ⟨n, a, y, z, rfl, hn1, hn2, hy, hz⟩
      · exact ⟨_, _, rfl, Or.inr (Or.inl rfl)⟩
      · exact ⟨_, _, rfl, Or.inl rfl⟩
      · exact ⟨_, _, rfl, Or.inl rfl⟩
      · refine ⟨_, _, rfl, ?_⟩
        rcases hn with rfl | rfl
        · exact Or.inr (Or.inr (Or.inr (Or.inl rfl)))
        · exact Or.inr (Or.inr (Or.inr (Or.inr rfl)))
      · have hsy : sizeI y ≤ N := by simp only [sizeI, sizeL] at hN; omega
        obtain ⟨t, r, e1, e2⟩ := ih y hsy hy (levelN n)
        simp only [outX, Int.toNat_natCast]
        split
        · exact ⟨_, _, rfl, Or.inr (Or.inr (Or.inl rfl))⟩
        · rw [e1]; exact ⟨t, _, rfl, e2⟩
  exact this _ x (Nat.le_refl _) h of
/-- An expression does not begin with a bracket that closes, with a comma, .. -/
theorem first_not {x : Item} (h : WX x) {as rest : List Tok} (h1 : tks as = outX 1 x) {y : List UInt8} (hy : y ≠ [40] ∧ y ≠ [45] ∧ y ≠ [33]) : isT y (as ++ rest) = false := by
  obtain ⟨t, r, e1, e2⟩ := outX_ne h 1
  rw [e1] at h1
  obtain ⟨u, r', rfl, e3, e4⟩ := tks_cons h1
  obtain ⟨k1, k2, k3⟩ := tk_is e3
  rcases e2 with e | e | rfl | rfl | rfl
  · simp [isT, nowKind, k1, e]
  · simp [isT, nowKind, k1, e]
  · rw [List.cons_append, isT_mk e3]; simp [hy.1.symm]
  · rw [List.cons_append, isT_mk e3]; simp [hy.2.1.symm]
  · rw [List.cons_append, isT_mk e3]; simp [hy.2.2.symm]

theorem tks_end {as : List Tok} {x : Tk} (h : tks as = [x]) : ∃ t, as = [t] ∧ tk t = x := by
  obtain ⟨t, r, rfl, e1, e2⟩ := tks_cons h
  obtain rfl : r = [] := by cases r with | nil => rfl | cons _ _ => cases e2
  exact ⟨t, rfl, e1⟩
theorem ends_back {x : Item} (h : WX x) {d f : Nat} {as rest : List Tok} (h1 : tks as = outX 1 x ++ [mk4 [59]]) (h2 : d + depX 1 x ≤ 64) (h4 : 12 * (as.length + rest.length) + 7 ≤ f) :
    ∃ x', endsS f d (as ++ rest) = .ok (x', rest) ∧ erase x' = erase x := by
  obtain ⟨ys, r, rfl, e1, e2⟩ := tks_app h1
  obtain ⟨c, rfl, e3⟩ := tks_end e2
  simp only [List.length_append, List.length_cons, List.length_nil] at h4
  obtain ⟨x', p1, p2⟩ := backX h (f := f) (rest := c :: rest) e1 h2 (stop_semi e3 1) (by simp only [List.length_cons]; omega)
  refine ⟨x', ?_, p2⟩
  unfold endsS
  rw [List.append_assoc, List.cons_append, List.nil_append, p1]
  simp only [take_mk e3]
theorem args_back : ∀ (l : List Item) (first : Bool) (acc : List Item) (d f : Nat) (as : List Tok) (c : Tok) (rest : List Tok), WXs l → tks as = outA first l → tk c = mk4 [41] → d + depA l ≤ 64 → 12 * (as.length + rest.length + 1) + 8 ≤ f →
    ∃ l', argsS f d first acc (as ++ c :: rest) = .ok (acc ++ l', c :: rest) ∧ eraseL l' = eraseL l
  | [], first, acc, d, f, as, c, rest, hw, h1, hc, h2, h3 => by
    obtain rfl : as = [] := by cases as with | nil => rfl | cons _ _ => cases h1
    obtain ⟨g, rfl⟩ : ∃ g, f = g + 1 := ⟨f - 1, by omega⟩
    refine ⟨[], ?_, rfl⟩
    unfold argsS
    rw [List.nil_append, if_pos (by rw [isT_mk hc]; rfl), List.append_nil]
  | x :: r, first, acc, d, f, as, c, rest, hw, h1, hc, h2, h3 => by
    obtain ⟨g, rfl⟩ : ∃ g, f = g + 1 := ⟨f - 1, by omega⟩
    simp only [outA] at h1
    simp only [depA] at h2
    obtain ⟨cs, bs, rfl, e1, e2⟩ := tks_app h1
    obtain ⟨ys, zs, rfl, e3, e4⟩ := tks_app e2
    simp only [List.length_append] at h3
    have hst : Stop 1 (zs ++ c :: rest) := by
      cases r with
      | nil =>
        obtain rfl : zs = [] := by cases zs with | nil => rfl | cons _ _ => cases e4
        exact stop_close hc 1
      | cons x' r' =>
        simp only [outA, Bool.false_eq_true, if_false] at e4
        obtain ⟨t, r'', rfl, e5, e6⟩ := tks_cons e4
        exact stop_comma e5 1
    obtain ⟨x', p1, p2⟩ := backX hw.1 (d := d) (f := g) (rest := zs ++ c :: rest) e3 (by omega) hst (by simp only [List.length_append, List.length_cons]; omega)
    obtain ⟨l', q1, q2⟩ := args_back r false (acc ++ [x']) d g zs c rest hw.2 e4 hc (by omega) (by
      have : 0 < ys.length := by
        obtain ⟨t, r', ee, _⟩ := outX_ne hw.1 1
        rw [ee] at e3; obtain ⟨_, _, rfl, _, _⟩ := tks_cons e3; simp
      omega)
    refine ⟨x' :: l', ?_, by simp [eraseL, p2, q2]⟩
    have hn : isT [41] (cs ++ (ys ++ zs) ++ c :: rest) = false := by
      cases first
      · obtain ⟨t, rfl, e5⟩ := tks_end e1
        rw [List.append_assoc, List.cons_append, isT_mk e5]; rfl
      · obtain rfl : cs = [] := by cases cs with | nil => rfl | cons _ _ => cases e1
        rw [List.nil_append, List.append_assoc]
        exact first_not hw.1 e3 (by decide)
    have ht : (if first then .ok (cs ++ (ys ++ zs) ++ c :: rest) else takeT [44] (cs ++ (ys ++ zs) ++ c :: rest)) = (.ok (ys ++ (zs ++ c :: rest)) : Except PErr (List Tok)) := by
      cases first
      · obtain ⟨t, rfl, e5⟩ := tks_end e1
        simp only [List.append_assoc, List.cons_append, List.nil_append, Bool.false_eq_true, if_false]
        exact take_mk e5 _
      · obtain rfl : cs = [] := by cases cs with | nil => rfl | cons _ _ => cases e1
        simp
    unfold argsS
    rw [if_neg (by rw [hn]; simp), ht]
    simp only [p1, q1, List.append_assoc, List.cons_append, List.nil_append]
theorem pars_back : ∀ (l : List Item) (first : Bool) (acc : List Item) (f : Nat) (as : List Tok) (c : Tok) (rest : List Tok), (∀ x ∈ l, WN 4 x) → tks as = outPs first l → tk c = mk4 [41] → as.length + 1 ≤ f →
    ∃ l', parsS f first acc (as ++ c :: rest) = .ok (acc ++ l', c :: rest) ∧ eraseL l' = eraseL l
  | [], first, acc, f, as, c, rest, hw, h1, hc, h3 => by
    obtain rfl : as = [] := by cases as with | nil => rfl | cons _ _ => cases h1
    obtain ⟨g, rfl⟩ : ∃ g, f = g + 1 := ⟨f - 1, by omega⟩
    refine ⟨[], ?_, rfl⟩
    unfold parsS
    rw [List.nil_append, if_pos (by rw [isT_mk hc]; rfl), List.append_nil]
  | x :: r, first, acc, f, as, c, rest, hw, h1, hc, h3 => by
    obtain ⟨g, rfl⟩ : ∃ g, f = g + 1 := ⟨f - 1, by omega⟩
    simp only [outPs] at h1
    obtain ⟨cs, bs, rfl, e1, e2⟩ := tks_app h1
    obtain ⟨y, zs, rfl, e3, e4⟩ := tks_cons e2
    simp only [List.length_append, List.length_cons] at h3
    obtain ⟨l', q1, q2⟩ := pars_back r false (acc ++ [.mk 4 (textI x) 0 y.at' []]) g zs c rest (fun z hz => hw z (by simp [hz])) e4 hc (by omega)
    have hx := hw x (by simp)
    refine ⟨.mk 4 (textI x) 0 y.at' [] :: l', ?_, ?_⟩
    · have hn : isT [41] (cs ++ y :: zs ++ c :: rest) = false := by
        cases first
        · obtain ⟨t, rfl, e5⟩ := tks_end e1
          rw [List.append_assoc, List.cons_append, isT_mk e5]; rfl
        · obtain rfl : cs = [] := by cases cs with | nil => rfl | cons _ _ => cases e1
          rw [List.nil_append, List.cons_append, isT_nm e3]
      have ht : (if first then .ok (cs ++ y :: zs ++ c :: rest) else takeT [44] (cs ++ y :: zs ++ c :: rest)) = (.ok (y :: (zs ++ c :: rest)) : Except PErr (List Tok)) := by
        cases first
        · obtain ⟨t, rfl, e5⟩ := tks_end e1
          simp only [List.cons_append, List.nil_append, Bool.false_eq_true, if_false]
          first | exact take_mk e5 _ | (simp only [List.append_assoc]; exact take_mk e5 _)
        · obtain rfl : cs = [] := by cases cs with | nil => rfl | cons _ _ => cases e1
          simp
      unfold parsS
      rw [if_neg (by rw [hn]; simp), ht]
      simp only [name_nm e3, nowAt, q1, List.append_assoc, List.cons_append, List.nil_append]
    · obtain ⟨k, t, n, a, ks⟩ := x
      obtain ⟨rfl, rfl, rfl⟩ := hx
      simp [eraseL, erase, q2, textI]

theorem wordKind_wd {t : Tok} {x : List UInt8} (h : tk t = wd x) (r : List Tok) : wordKind (t :: r) = (wordKinds.lookup x).getD 0 := by
  obtain ⟨h1, h2, _⟩ := tk_is h
  unfold wordKind
  rw [if_pos (by simpa [nowKind, wd] using h1)]
  simp only [nowText, h2, wd]
theorem wordKind_nm {t : Tok} {x : List UInt8} (h : tk t = nm x) (r : List Tok) : wordKind (t :: r) = 0 := by
  obtain ⟨h1, h2, _⟩ := tk_is h
  unfold wordKind
  rw [if_neg (by simp [nowKind, h1, nm])]
/-- What a statement begins with. -/
theorem outS_first {x : Item} (h : WS true x) : ∃ t r, outS x = t :: r ∧ (t.1 = 1 ∨ ∃ w, t = wd w ∧ w ≠ [101, 108, 115, 101]) := by
  cases h with
  | declare => exact ⟨_, _, by rw [outS], Or.inr ⟨_, rfl, by decide⟩⟩
  | assign => exact ⟨_, _, by rw [outS], Or.inl rfl⟩
  | store => exact ⟨_, _, by rw [outS], Or.inl rfl⟩
  | if1 => exact ⟨_, _, by rw [outS], Or.inr ⟨_, rfl, by decide⟩⟩
  | if2 => exact ⟨_, _, by rw [outS], Or.inr ⟨_, rfl, by decide⟩⟩
  | for1 => exact ⟨_, _, by rw [outS], Or.inr ⟨_, rfl, by decide⟩⟩
  | ret k a x hk =>
    rcases hk with rfl | rfl | rfl
    · exact ⟨_, _, by rw [outS], Or.inr ⟨_, rfl, by decide⟩⟩
    · exact ⟨_, _, by rw [outS], Or.inr ⟨_, rfl, by decide⟩⟩
    · exact ⟨_, _, by rw [outS], Or.inr ⟨_, rfl, by decide⟩⟩
  | read => exact ⟨_, _, by rw [outS], Or.inr ⟨_, rfl, by decide⟩⟩
  | call => exact ⟨_, _, by rw [outS], Or.inr ⟨_, rfl, by decide⟩⟩
theorem stmt_not {x : Item} (h : WS true x) {as rest : List Tok} (h1 : tks as = outS x) : isT [101, 108, 115, 101] (as ++ rest) = false ∧ (∀ y w, (w :: y : List UInt8).length = 1 → (∀ z v, outS x = wd z :: v → z ≠ w :: y) → isT (w :: y) (as ++ rest) = false) ∧ as ≠ [] := by
  obtain ⟨t, r, e1, e2⟩ := outS_first h
  rw [e1] at h1
  obtain ⟨u, r', rfl, e3, e4⟩ := tks_cons h1
  obtain ⟨k1, k2, k3⟩ := tk_is e3
  refine ⟨?_, ?_, by simp⟩
  · rcases e2 with e | ⟨w, rfl, hw⟩
    · simp [isT, nowKind, k1, e]
    · rw [List.cons_append, isT_wd e3]; simp [hw]
  · intro y w hl hz
    rcases e2 with e | ⟨w', rfl, hw⟩
    · simp [isT, nowKind, k1, e]
    · rw [List.cons_append, isT_wd e3]; simp [hz _ _ e1]
theorem stmt_not_brace {x : Item} (h : WS true x) {as rest : List Tok} (h1 : tks as = outS x) : isT [125] (as ++ rest) = false := by
  refine (stmt_not h h1).2.1 [] 125 rfl (fun z v e => ?_)
  cases h with
  | ret k a x hk =>
    rcases hk with rfl | rfl | rfl <;> (rw [outS] at e; injection e with e _; injection e with _ e; injection e with e _; subst e; decide)
  | assign => rw [outS] at e; injection e with e _; injection e with e _; cases e
  | store => rw [outS] at e; injection e with e _; injection e with e _; cases e
  | _ => rw [outS] at e; injection e with e _; injection e with _ e; injection e with e _; subst e; decide

def RB (x : Item) : Prop := ∀ (d f : Nat) (as rest : List Tok), tks as = outS x → d + depS x ≤ 64 → 12 * (as.length + rest.length) + 10 ≤ f →
  ∃ x', blockS f d (as ++ rest) = .ok (x', rest) ∧ erase x' = erase x
def RS (x : Item) : Prop := ∀ (d f : Nat) (as rest : List Tok), tks as = outS x → d + depS x ≤ 64 → isT [101, 108, 115, 101] rest = false → 12 * (as.length + rest.length) + 10 ≤ f →
  ∃ x', stmtS f d (as ++ rest) = .ok (x', rest) ∧ erase x' = erase x

theorem stmts_back : ∀ (l : List Item) (acc : List Item) (d f : Nat) (as : List Tok) (c : Tok) (rest : List Tok), (∀ x ∈ l, WS true x ∧ RS x) → tks as = outSs l → tk c = mk4 [125] → d + depSs l ≤ 64 → 12 * (as.length + rest.length + 1) + 12 ≤ f →
    ∃ l', stmtsS f d acc (as ++ c :: rest) = .ok (acc ++ l', c :: rest) ∧ eraseL l' = eraseL l
  | [], acc, d, f, as, c, rest, hw, h1, hc, h2, h3 => by
    obtain rfl : as = [] := by cases as with | nil => rfl | cons _ _ => cases h1
    obtain ⟨g, rfl⟩ : ∃ g, f = g + 1 := ⟨f - 1, by omega⟩
    refine ⟨[], ?_, rfl⟩
    unfold stmtsS
    rw [List.nil_append, if_pos (by rw [isT_mk hc]; rfl), List.append_nil]
  | x :: r, acc, d, f, as, c, rest, hw, h1, hc, h2, h3 => by
    obtain ⟨g, rfl⟩ : ∃ g, f = g + 1 := ⟨f - 1, by omega⟩
    simp only [outSs] at h1
    simp only [depSs] at h2
    obtain ⟨ys, zs, rfl, e1, e2⟩ := tks_app h1
    simp only [List.length_append] at h3
    obtain ⟨hx, hr⟩ := hw x (by simp)
    have hst : isT [101, 108, 115, 101] (zs ++ c :: rest) = false := by
      cases r with
      | nil =>
        obtain rfl : zs = [] := by cases zs with | nil => rfl | cons _ _ => cases e2
        rw [List.nil_append, isT_mk hc]; rfl
      | cons x' r' =>
        simp only [outSs] at e2
        obtain ⟨ys', zs', rfl, e3, _⟩ := tks_app e2
        rw [List.append_assoc]
        exact (stmt_not (hw x' (by simp)).1 e3).1
    obtain ⟨x', p1, p2⟩ := hr d g ys (zs ++ c :: rest) e1 (by omega) hst (by simp only [List.length_append, List.length_cons]; omega)
    obtain ⟨l', q1, q2⟩ := stmts_back r (acc ++ [x']) d g zs c rest (fun z hz => hw z (by simp [hz])) e2 hc (by omega) (by
      have := List.length_pos_iff.2 (stmt_not (rest := []) hx e1).2.2
      omega)
    refine ⟨x' :: l', ?_, by simp [eraseL, p2, q2]⟩
    unfold stmtsS
    rw [List.append_assoc, if_neg (by rw [stmt_not_brace hx e1]; simp)]
    simp only [p1, q1, List.append_assoc, List.cons_append, List.nil_append]

theorem ws_first_block {x : Item} (h : WS false x) {as rest : List Tok} (h1 : tks as = outS x) : Stop 1 (as ++ rest) ∧ isT [101, 108, 115, 101] (as ++ rest) = false ∧ as ≠ [] := by
  cases h with
  | block a l hl =>
    rw [outS] at h1
    obtain ⟨u, r', rfl, e3, e4⟩ := tks_cons h1
    refine ⟨stop_brace e3 1, by rw [List.cons_append, isT_mk e3]; rfl, by simp⟩

theorem sizeL_mem {x : Item} {l : List Item} (h : x ∈ l) : sizeI x ≤ sizeL l := by
  induction l with
  | nil => cases h
  | cons y r ih =>
    simp only [sizeL]
    rcases List.mem_cons.1 h with rfl | h
    · omega
    · have := ih h; omega

theorem backS_sized : ∀ (N : Nat) (x : Item), sizeI x ≤ N → (WS false x → RB x) ∧ (WS true x → RS x) := by
  intro N
  induction N with
  | zero => intro x h; have := sizeI_pos x; omega
  | succ N ih =>
    intro x hN
    constructor
    · intro hw
      cases hw with
      | block a l hl =>
        intro d f as rest h1 h2 h3
        rw [outS] at h1
        simp only [sizeI] at hN
        obtain ⟨u, r, rfl, e1, e2⟩ := tks_cons h1
        obtain ⟨ys, r, rfl, e3, e4⟩ := tks_app e2
        obtain ⟨c, rfl, e5⟩ := tks_end e4
        simp only [List.length_append, List.length_cons, List.length_nil] at h3
        rw [depS] at h2
        obtain ⟨g, rfl⟩ : ∃ g, f = g + 1 := ⟨f - 1, by omega⟩
        obtain ⟨l', q1, q2⟩ := stmts_back l [] (d + 1) g ys c rest (fun y hy => ⟨hl y hy, (ih y (by have := sizeL_mem hy; omega)).2 (hl y hy)⟩) e3 e5 (by omega) (by omega)
        refine ⟨.mk 5 [] 0 u.at' l', ?_, by simp [erase, q2]⟩
        unfold blockS
        simp only [List.cons_append, List.append_assoc, List.nil_append] at q1 ⊢
        rw [open_mk e1 (by omega)]
        simp only [q1, take_mk e5, nowAt]
    · intro hw
      intro d f as rest h1 h2 h0 h3
      cases hw with
      | declare t a x hx =>
        rw [outS] at h1
        obtain ⟨u, r, rfl, e1, e2⟩ := tks_cons h1
        obtain ⟨v, r, rfl, e3, e4⟩ := tks_cons e2
        obtain ⟨w, r, rfl, e5, e6⟩ := tks_cons e4
        simp only [List.length_cons] at h3
        rw [depS] at h2
        · obtain ⟨g, rfl⟩ : ∃ g, f = g + 1 := ⟨f - 1, by omega⟩
          obtain ⟨x', p1, p2⟩ := ends_back hx (d := d) (f := g) (rest := rest) e6 h2 (by omega)
          refine ⟨.mk 6 t 0 u.at' [x'], ?_, by simp [erase, eraseL, p2]⟩
          unfold stmtS
          simp only [List.cons_append, wordKind_wd e1]
          simp [wordKinds, declareS, name_nm e3, take_mk e5, p1, nowAt]
        all_goals (intros; first | simp | (intro h; cases h) | omega | trivial)
      | assign t a x hx =>
        rw [outS] at h1
        obtain ⟨u, r, rfl, e1, e2⟩ := tks_cons h1
        obtain ⟨w, r, rfl, e5, e6⟩ := tks_cons e2
        simp only [List.length_cons] at h3
        rw [depS] at h2
        · obtain ⟨g, rfl⟩ : ∃ g, f = g + 1 := ⟨f - 1, by omega⟩
          obtain ⟨x', p1, p2⟩ := ends_back hx (d := d) (f := g) (rest := rest) e6 h2 (by omega)
          refine ⟨.mk 7 t 0 u.at' [x'], ?_, by simp [erase, eraseL, p2]⟩
          unfold stmtS
          simp only [List.cons_append, wordKind_nm e1, if_true]
          simp [assignS, name_nm e1, isT_mk e5, take_mk e5, p1, nowAt]
        all_goals (intros; first | simp | (intro h; cases h) | omega | trivial)
      | store t a x y hx hy =>
        rw [outS] at h1
        obtain ⟨u, r, rfl, e1, e2⟩ := tks_cons h1
        obtain ⟨w, r, rfl, e5, e6⟩ := tks_cons e2
        obtain ⟨ys, r, rfl, e7, e8⟩ := tks_app e6
        obtain ⟨c, r, rfl, e9, e10⟩ := tks_cons e8
        obtain ⟨q, r, rfl, e11, e12⟩ := tks_cons e10
        simp only [List.length_cons, List.length_append] at h3
        rw [depS] at h2
        obtain ⟨g, rfl⟩ : ∃ g, f = g + 1 := ⟨f - 1, by omega⟩
        obtain ⟨x', p1, p2⟩ := backX hx (d := d + 1) (f := g) (rest := c :: q :: (r ++ rest)) e7 (by omega) (stop_brack e9 1) (by simp only [List.length_append, List.length_cons]; omega)
        obtain ⟨y', p3, p4⟩ := ends_back hy (d := d) (f := g) (rest := rest) e12 (by omega) (by omega)
        refine ⟨.mk 8 t 0 u.at' [x', y'], ?_, by simp [erase, eraseL, p2, p4]⟩
        unfold stmtS
        simp only [List.cons_append, List.append_assoc, wordKind_nm e1, if_true]
        have ho : openT [91] d (w :: (ys ++ c :: q :: (r ++ rest))) = .ok (ys ++ c :: q :: (r ++ rest)) := open_mk e5 (by omega) _
        simp [assignS, name_nm e1, isT_mk e5, ho, p1, take_mk e9, take_mk e11, p3, nowAt]
      | if1 a x b hx hb =>
        rw [outS] at h1
        obtain ⟨u, r, rfl, e1, e2⟩ := tks_cons h1
        obtain ⟨ys, zs, rfl, e3, e4⟩ := tks_app e2
        simp only [List.length_cons, List.length_append] at h3
        simp only [sizeI, sizeL] at hN
        rw [depS] at h2
        obtain ⟨g, rfl⟩ : ∃ g, f = g + 2 := ⟨f - 2, by omega⟩
        obtain ⟨w1, w2, w3⟩ := ws_first_block hb (rest := rest) e4
        obtain ⟨x', p1, p2⟩ := backX hx (d := d) (f := g) (rest := zs ++ rest) e3 (by omega) w1 (by simp only [List.length_append]; omega)
        have hpos : 0 < ys.length := by
          obtain ⟨t, r', ee, _⟩ := outX_ne hx 1
          rw [ee] at e3; obtain ⟨_, _, rfl, _, _⟩ := tks_cons e3; simp
        obtain ⟨b', p3, p4⟩ := (ih b (by omega)).1 hb d g zs rest e4 (by omega) (by omega)
        refine ⟨.mk 9 [] 0 u.at' [x', b'], ?_, by simp [erase, eraseL, p2, p4]⟩
        unfold stmtS
        simp only [List.cons_append, wordKind_wd e1]
        simp [wordKinds, List.lookup, chooseS, p1, p3, h0, nowAt]
      | if2 a x b c hx hb hc =>
        rw [outS] at h1
        obtain ⟨u, r, rfl, e1, e2⟩ := tks_cons h1
        obtain ⟨ys, r, rfl, e3, e4⟩ := tks_app e2
        obtain ⟨zs, r, rfl, e5, e6⟩ := tks_app e4
        obtain ⟨v, cs, rfl, e7, e8⟩ := tks_cons e6
        simp only [List.length_cons, List.length_append] at h3
        simp only [sizeI, sizeL] at hN
        rw [depS] at h2
        obtain ⟨g, rfl⟩ : ∃ g, f = g + 2 := ⟨f - 2, by omega⟩
        obtain ⟨w1, w2, w3⟩ := ws_first_block hb (rest := v :: (cs ++ rest)) e5
        obtain ⟨x', p1, p2⟩ := backX hx (d := d) (f := g) (rest := zs ++ v :: (cs ++ rest)) e3 (by omega) w1 (by simp only [List.length_append, List.length_cons]; omega)
        obtain ⟨b', p3, p4⟩ := (ih b (by omega)).1 hb d g zs (v :: (cs ++ rest)) e5 (by omega) (by simp only [List.length_append, List.length_cons]; omega)
        obtain ⟨c', p5, p6⟩ := (ih c (by omega)).1 hc d g cs rest e8 (by omega) (by omega)
        refine ⟨.mk 9 [] 0 u.at' [x', b', c'], ?_, by simp [erase, eraseL, p2, p4, p6]⟩
        unfold stmtS
        simp only [List.cons_append, List.append_assoc, wordKind_wd e1]
        simp [wordKinds, List.lookup, chooseS, p1, p3, isT_wd e7, p5, nowAt]
      | for1 a x b hx hb =>
        rw [outS] at h1
        obtain ⟨u, r, rfl, e1, e2⟩ := tks_cons h1
        obtain ⟨ys, zs, rfl, e3, e4⟩ := tks_app e2
        simp only [List.length_cons, List.length_append] at h3
        simp only [sizeI, sizeL] at hN
        rw [depS] at h2
        obtain ⟨g, rfl⟩ : ∃ g, f = g + 2 := ⟨f - 2, by omega⟩
        obtain ⟨w1, w2, w3⟩ := ws_first_block hb (rest := rest) e4
        obtain ⟨x', p1, p2⟩ := backX hx (d := d) (f := g) (rest := zs ++ rest) e3 (by omega) w1 (by simp only [List.length_append]; omega)
        have hpos : 0 < ys.length := by
          obtain ⟨t, r', ee, _⟩ := outX_ne hx 1
          rw [ee] at e3; obtain ⟨_, _, rfl, _, _⟩ := tks_cons e3; simp
        obtain ⟨b', p3, p4⟩ := (ih b (by omega)).1 hb d g zs rest e4 (by omega) (by omega)
        refine ⟨.mk 10 [] 0 u.at' [x', b'], ?_, by simp [erase, eraseL, p2, p4]⟩
        unfold stmtS
        simp only [List.cons_append, wordKind_wd e1]
        simp [wordKinds, List.lookup, forS, p1, p3, nowAt]
      | ret k a x hk hx =>
        have hk' : depS (.mk k [] 0 a [x]) = depX 1 x := by rcases hk with rfl | rfl | rfl <;> (rw [depS] <;> (intros; first | simp | (intro h; cases h) | omega | trivial))
        have hx1 : ∃ w, outS (.mk k [] 0 a [x]) = wd w :: (outX 1 x ++ [mk4 [59]]) ∧ wordKinds.lookup w = some k := by
          rcases hk with rfl | rfl | rfl
          · exact ⟨_, by rw [outS], rfl⟩
          · exact ⟨_, by rw [outS], rfl⟩
          · exact ⟨_, by rw [outS], rfl⟩
        obtain ⟨w, hw1, hw2⟩ := hx1
        rw [hw1] at h1
        rw [hk'] at h2
        obtain ⟨u, r, rfl, e1, e2⟩ := tks_cons h1
        simp only [List.length_cons] at h3
        obtain ⟨g, rfl⟩ : ∃ g, f = g + 1 := ⟨f - 1, by omega⟩
        obtain ⟨x', p1, p2⟩ := ends_back hx (d := d) (f := g) (rest := rest) e2 h2 (by omega)
        refine ⟨.mk k [] 0 u.at' [x'], ?_, by simp [erase, eraseL, p2]⟩
        unfold stmtS
        simp only [List.cons_append, wordKind_wd e1, hw2]
        rcases hk with rfl | rfl | rfl <;> simp [p1, nowAt]
      | read t a =>
        rw [outS] at h1
        obtain ⟨u, r, rfl, e1, e2⟩ := tks_cons h1
        obtain ⟨v, r, rfl, e3, e4⟩ := tks_cons e2
        obtain ⟨c, rfl, e5⟩ := tks_end e4
        simp only [List.length_cons] at h3
        obtain ⟨g, rfl⟩ : ∃ g, f = g + 1 := ⟨f - 1, by omega⟩
        refine ⟨.mk 14 t 0 u.at' [], ?_, by simp [erase]⟩
        unfold stmtS
        simp only [List.cons_append, List.nil_append, wordKind_wd e1]
        simp [wordKinds, List.lookup, readS, name_nm e3, take_mk e5, nowAt]
      | call t a n b l hl =>
        rw [outS] at h1
        obtain ⟨u, r, rfl, e1, e2⟩ := tks_cons h1
        obtain ⟨v, r, rfl, e3, e4⟩ := tks_cons e2
        obtain ⟨w, r, rfl, e5, e6⟩ := tks_cons e4
        obtain ⟨q, r, rfl, e7, e8⟩ := tks_cons e6
        obtain ⟨p, r, rfl, e9, e10⟩ := tks_cons e8
        obtain ⟨ys, r, rfl, e11, e12⟩ := tks_app e10
        obtain ⟨c, r, rfl, e13, e14⟩ := tks_cons e12
        obtain ⟨s, rfl, e15⟩ := tks_end e14
        simp only [List.length_cons, List.length_append, List.length_nil] at h3
        simp only [textI] at e7
        rw [depS] at h2
        obtain ⟨g, rfl⟩ : ∃ g, f = g + 1 := ⟨f - 1, by omega⟩
        obtain ⟨l', p1, p2⟩ := args_back l true [] d g ys c (s :: rest) hl e11 e13 h2 (by simp only [List.length_cons]; omega)
        refine ⟨.mk 15 t 0 u.at' (.mk 16 n 0 q.at' [] :: l'), ?_, by simp [erase, eraseL, p2]⟩
        unfold stmtS
        simp only [List.cons_append, List.append_assoc, List.nil_append, wordKind_wd e1]
        simp only [List.nil_append] at p1
        simp [wordKinds, List.lookup, callS, name_nm e3, take_mk e5, name_nm e7, take_mk e9, p1, take_mk e13, take_mk e15, nowAt]

/-- A shaped part of a program. -/
inductive WD : Item → Prop
  | array (t : List UInt8) (n : Int) (a : Nat) : WD (.mk 2 t n a [])
  | func (t : List UInt8) (a : Nat) (l : List Item) (b : Item) : (∀ x ∈ l, WN 4 x) → WS false b → WD (.mk 3 t 0 a (l ++ [b]))
def outD : Item → List Tk
  | .mk 2 t n _ _ => [wd [118, 97, 114], nm t, mk4 [91], nb n, mk4 [93], mk4 [59]]
  | .mk 3 t _ _ ks => wd [102, 117, 110, 99] :: nm t :: mk4 [40] :: (outPs true ks.dropLast ++ mk4 [41] :: (match ks.getLast? with | some b => outS b | none => []))
  | _ => []
def depD : Item → Nat
  | .mk 3 _ _ _ ks => match ks.getLast? with | some b => depS b | none => 0
  | _ => 0
def outDs : List Item → List Tk
  | [] => []
  | x :: r => outD x ++ outDs r
def depDs : List Item → Nat
  | [] => 0
  | x :: r => max (depD x) (depDs r)

theorem array_back {t : List UInt8} {n : Int} {a : Nat} {as rest : List Tok} (h1 : tks as = outD (.mk 2 t n a [])) :
    ∃ x', arrayS (as ++ rest) = .ok (x', rest) ∧ erase x' = erase (.mk 2 t n a []) := by
  simp only [outD] at h1
  obtain ⟨u, r, rfl, e1, e2⟩ := tks_cons h1
  obtain ⟨v, r, rfl, e3, e4⟩ := tks_cons e2
  obtain ⟨w, r, rfl, e5, e6⟩ := tks_cons e4
  obtain ⟨q, r, rfl, e7, e8⟩ := tks_cons e6
  obtain ⟨p, r, rfl, e9, e10⟩ := tks_cons e8
  obtain ⟨s, rfl, e11⟩ := tks_end e10
  obtain ⟨k1, k2, k3⟩ := tk_is e7
  refine ⟨.mk 2 t n u.at' [], ?_, rfl⟩
  have hk : nowKind (q :: p :: s :: rest) = 3 := by simpa [nowKind, nb] using k1
  unfold arrayS
  simp only [List.cons_append, List.nil_append, take_wd e1, name_nm e3, take_mk e5, hk, if_true, List.tail_cons, take_mk e9, take_mk e11, nowAt, nowN, k3]
  rfl
theorem func_back {t : List UInt8} {a : Nat} {l : List Item} {b : Item} {f : Nat} {as rest : List Tok} (hl : ∀ x ∈ l, WN 4 x) (hb : WS false b) (h1 : tks as = outD (.mk 3 t 0 a (l ++ [b]))) (h2 : depD (.mk 3 t 0 a (l ++ [b])) ≤ 64) (h3 : 12 * (as.length + rest.length) + 10 ≤ f) :
    ∃ x', funcS f (as ++ rest) = .ok (x', rest) ∧ erase x' = erase (.mk 3 t 0 a (l ++ [b])) := by
  simp only [outD, List.dropLast_concat, List.getLast?_concat] at h1
  simp only [depD, List.getLast?_concat] at h2
  obtain ⟨u, r, rfl, e1, e2⟩ := tks_cons h1
  obtain ⟨v, r, rfl, e3, e4⟩ := tks_cons e2
  obtain ⟨w, r, rfl, e5, e6⟩ := tks_cons e4
  obtain ⟨ps, r, rfl, e7, e8⟩ := tks_app e6
  obtain ⟨c, bs, rfl, e9, e10⟩ := tks_cons e8
  simp only [List.length_cons, List.length_append] at h3
  obtain ⟨l', p1, p2⟩ := pars_back l true [] f ps c (bs ++ rest) hl e7 e9 (by omega)
  obtain ⟨b', p3, p4⟩ := (backS_sized _ b (Nat.le_refl _)).1 hb 0 f bs rest e10 (by omega) (by omega)
  have ea : ∀ (x y : List Item), eraseL (x ++ y) = eraseL x ++ eraseL y := by
    intro x y
    induction x with
    | nil => rfl
    | cons z r ih => simp [eraseL, ih]
  refine ⟨.mk 3 t 0 u.at' (l' ++ [b']), ?_, by simp [erase, ea, p2, p4, eraseL]⟩
  simp only [List.nil_append] at p1
  unfold funcS
  simp only [List.cons_append, List.append_assoc, take_wd e1, name_nm e3, take_mk e5, p1, take_mk e9, p3, nowAt]
theorem eraseL_append (x y : List Item) : eraseL (x ++ y) = eraseL x ++ eraseL y := by
  induction x with
  | nil => rfl
  | cons z r ih => simp [eraseL, ih]
theorem parts_back : ∀ (l : List Item) (acc : List Item) (f : Nat) (as : List Tok) (c : Tok), (∀ x ∈ l, WD x) → tks as = outDs l → c.kind = 5 → depDs l ≤ 64 → 12 * (as.length + 1) + 12 ≤ f →
    ∃ l', partsS f acc (as ++ [c]) = .ok (acc ++ l') ∧ eraseL l' = eraseL l
  | [], acc, f, as, c, hw, h1, hc, h2, h3 => by
    obtain rfl : as = [] := by cases as with | nil => rfl | cons _ _ => cases h1
    obtain ⟨g, rfl⟩ : ∃ g, f = g + 1 := ⟨f - 1, by omega⟩
    refine ⟨[], ?_, rfl⟩
    unfold partsS
    rw [List.nil_append, if_pos (by simpa [nowKind] using hc), List.append_nil]
  | x :: r, acc, f, as, c, hw, h1, hc, h2, h3 => by
    obtain ⟨g, rfl⟩ : ∃ g, f = g + 1 := ⟨f - 1, by omega⟩
    simp only [outDs] at h1
    simp only [depDs] at h2
    obtain ⟨ys, zs, rfl, e1, e2⟩ := tks_app h1
    simp only [List.length_append] at h3
    have hx := hw x (by simp)
    have hd : ∃ x', (if isT [118, 97, 114] (ys ++ (zs ++ [c])) = true then arrayS (ys ++ (zs ++ [c])) else funcS g (ys ++ (zs ++ [c]))) = .ok (x', zs ++ [c]) ∧ erase x' = erase x ∧ nowKind (ys ++ (zs ++ [c])) ≠ 5 ∧ 0 < ys.length := by
      cases hx with
      | array t n a =>
        obtain ⟨x', p1, p2⟩ := array_back (rest := zs ++ [c]) e1
        simp only [outD] at e1
        obtain ⟨u, r, rfl, e3, e4⟩ := tks_cons e1
        refine ⟨x', ?_, p2, ?_, by simp⟩
        · rw [if_pos (by rw [List.cons_append, isT_wd e3]; rfl)]; exact p1
        · simp [nowKind, (tk_is e3).1, wd]
      | func t a l b hl hb =>
        obtain ⟨x', p1, p2⟩ := func_back (f := g) (rest := zs ++ [c]) hl hb e1 (by omega) (by
          have : 0 < ys.length := by
            simp only [outD] at e1
            obtain ⟨_, _, rfl, _, _⟩ := tks_cons e1; simp
          simp only [List.length_append, List.length_cons, List.length_nil]; omega)
        simp only [outD] at e1
        obtain ⟨u, r, rfl, e3, e4⟩ := tks_cons e1
        refine ⟨x', ?_, p2, ?_, by simp⟩
        · rw [if_neg (by rw [List.cons_append, isT_wd e3]; decide)]; exact p1
        · simp [nowKind, (tk_is e3).1, wd]
    obtain ⟨x', p1, p2, p3, p4⟩ := hd
    obtain ⟨l', q1, q2⟩ := parts_back r (acc ++ [x']) g zs c (fun z hz => hw z (by simp [hz])) e2 hc (by omega) (by omega)
    refine ⟨x' :: l', ?_, by simp [eraseL, p2, q2]⟩
    unfold partsS
    rw [List.append_assoc, if_neg p3, p1]
    simp only [q1, List.append_assoc, List.cons_append, List.nil_append]
/-- A shaped program. -/
def WP : Item → Prop
  | .mk k t n _ l => k = 1 ∧ t = [] ∧ n = 0 ∧ ∀ x ∈ l, WD x
def outP : Item → List Tk
  | .mk _ _ _ _ l => outDs l
def depP : Item → Nat
  | .mk _ _ _ _ l => depDs l
/-- WHAT A PROGRAM IS PRINTED AS IS READ AS IT. -/
theorem back {x : Item} (h : WP x) {as : List Tok} {c : Tok} (h1 : tks as = outP x) (hc : c.kind = 5) (h2 : depP x ≤ 64) :
    ∃ x', progS (as ++ [c]) = .ok x' ∧ erase x' = erase x := by
  obtain ⟨k, t, n, a, l⟩ := x
  obtain ⟨rfl, rfl, rfl, hl⟩ := h
  obtain ⟨l', p1, p2⟩ := parts_back l [] (16 * (as ++ [c]).length + 16) as c hl h1 hc h2 (by simp; omega)
  refine ⟨.mk 1 [] 0 (nowAt (as ++ [c])) l', ?_, by simp [erase, p2]⟩
  unfold progS
  rw [p1, List.nil_append]
end Go.Proofs.YtkkeocnnecegbaaGreatDoor

/- Plain law of parse: what is read is shaped, its levels are at most 64, and it is printed as no more than was read. By an AI agent. -/
namespace Go.Proofs.YtkkeocnnecegbaaGreatDoor

def nameOk (l : List UInt8) : Bool := match l with
  | [] => false
  | c :: r => isLet c && !isWordS (c :: r) && manyS (fun c => isLet c || isDig c) (c :: r) == (c :: r).length
/-- A token as lex makes it. -/
def TG (t : Tok) : Prop := (t.kind = 1 ∧ t.n = 0 ∧ nameOk t.text = true) ∨ (t.kind = 2 ∧ t.n = 0) ∨ (t.kind = 3 ∧ t.text = Lib.itoa t.n ∧ 0 ≤ t.n ∧ t.n ≤ 2147483647) ∨ (t.kind = 4 ∧ t.n = 0) ∨ (t.kind = 5 ∧ t.n = 0)
def TGs (ts : List Tok) : Prop := ∀ t ∈ ts, TG t
def named (k : Nat) : Bool := decide (k ∈ [2, 3, 4, 6, 7, 8, 14, 15, 16, 18, 19])
mutual
/-- Names are names, numbers in their bounds. -/
def GoodI : Item → Prop
  | .mk k t n _ ks => (named k = true → nameOk t = true) ∧ (0 ≤ n ∧ n ≤ 2147483647) ∧ GoodL ks
def GoodL : List Item → Prop
  | [] => True
  | x :: r => GoodI x ∧ GoodL r
end
theorem goodL_append {a b : List Item} (h1 : GoodL a) (h2 : GoodL b) : GoodL (a ++ b) := by
  induction a with
  | nil => exact h2
  | cons x r ih => exact ⟨h1.1, ih h1.2⟩
/-- How many bytes tokens take, with a blank behind each. -/
def wt : List Tk → Nat
  | [] => 0
  | t :: r => t.2.1.length + 1 + wt r
theorem wt_append (a b : List Tk) : wt (a ++ b) = wt a + wt b := by
  induction a with
  | nil => simp [wt]
  | cons t r ih => simp only [List.cons_append, wt, ih]; omega
theorem wt_mk4 (x : List UInt8) (r : List Tk) : wt (mk4 x :: r) = x.length + 1 + wt r := rfl
theorem wt_wd (x : List UInt8) (r : List Tk) : wt (wd x :: r) = x.length + 1 + wt r := rfl
theorem wt_nm (x : List UInt8) (r : List Tk) : wt (nm x :: r) = x.length + 1 + wt r := rfl

theorem wt_nil : wt [] = 0 := rfl
theorem wt_nb (n : Int) (r : List Tk) : wt (nb n :: r) = (Lib.itoa n).length + 1 + wt r := rfl
def Wt (ts : List Tok) : Nat := wt (tks ts)
theorem Wt_cons (t : Tok) (r : List Tok) : Wt (t :: r) = t.text.length + 1 + Wt r := rfl
theorem TGs.tail {ts : List Tok} (h : TGs ts) : TGs ts.tail := fun t ht => h t (List.mem_of_mem_tail ht)
theorem isT_wt {x : List UInt8} {ts : List Tok} (h : isT x ts = true) : Wt ts = x.length + 1 + Wt ts.tail := by
  cases ts with
  | nil => simp [isT, nowKind] at h
  | cons t r =>
    simp only [isT, nowText, Bool.and_eq_true, beq_iff_eq] at h
    rw [Wt_cons, h.2]; rfl
/-- What a step leaves: good tokens, less weight. -/
structure Ls (ts r : List Tok) (k : Nat) : Prop where
  e : EndL r
  g : TGs r
  w : k + Wt r ≤ Wt ts
theorem take_ls {x : List UInt8} {ts r : List Tok} (he : EndL ts) (hg : TGs ts) (h : takeT x ts = .ok r) : Ls ts r (x.length + 1) := by
  obtain ⟨a, b, rfl, c⟩ := takeT_ok he h
  exact ⟨a, hg.tail, by rw [isT_wt c]; omega⟩
theorem open_ls {x : List UInt8} {d : Nat} {ts r : List Tok} (he : EndL ts) (hg : TGs ts) (h : openT x d ts = .ok r) : Ls ts r (x.length + 1) ∧ d < 64 := by
  have h' := h
  unfold openT at h
  split at h
  · cases h
  · rename_i hn
    have := take_ls he hg h
    refine ⟨this, ?_⟩
    obtain ⟨_, _, _, c⟩ := takeT_ok he h
    rw [c] at hn
    simp at hn
    exact hn
theorem name_ls {ts r : List Tok} {t : List UInt8} (he : EndL ts) (hg : TGs ts) (h : nameT ts = .ok (t, r)) : Ls ts r (t.length + 1) ∧ nameOk t = true := by
  obtain ⟨a, b, rfl, rfl, c⟩ := nameT_ok he h
  cases ts with
  | nil => cases he
  | cons u r =>
    simp only [nowKind] at c
    refine ⟨⟨a, hg.tail, by rw [Wt_cons]; simp [nowText]⟩, ?_⟩
    rcases hg u (by simp) with h | h | h | h | h
    · exact h.2.2
    all_goals omega
theorem mark_wt {of : Nat} {ts : List Tok} (h : markOf of ts ≠ 0) : 1 ≤ markOf of ts ∧ markOf of ts ≤ 14 ∧ levelN (markOf of ts) = of ∧ isT (markText (markOf of ts)) ts = true := by
  have : ∀ (l : List (List UInt8)) (n : Nat), markFrom of ts n l ≠ 0 → n ≤ markFrom of ts n l ∧ markFrom of ts n l < n + l.length ∧ levelN (markFrom of ts n l) = of ∧ isT (l.getD (markFrom of ts n l - n) []) ts = true := by
    intro l
    induction l with
    | nil => intro n h; exact absurd rfl h
    | cons m r ih =>
      intro n h
      unfold markFrom at h ⊢
      split
      · rename_i hc
        refine ⟨Nat.le_refl _, by simp, hc.1, by simpa using hc.2⟩
      · rename_i hc
        rw [if_neg hc] at h
        obtain ⟨a, b, c, d⟩ := ih (n + 1) h
        refine ⟨by omega, by simp only [List.length_cons]; omega, c, ?_⟩
        have e : markFrom of ts (n + 1) r - n = markFrom of ts (n + 1) r - (n + 1) + 1 := by omega
        rw [e, List.getD_cons_succ]; exact d
  obtain ⟨a, b, c, d⟩ := this binMarks 1 h
  simp only [binMarks, List.length_cons, List.length_nil] at b
  exact ⟨a, by unfold markOf binMarks; omega, c, d⟩
theorem markText_ne (n : Nat) (h1 : 1 ≤ n) (h2 : n ≤ 14) : markText n ≠ [] := by
  have : n = 1 ∨ n = 2 ∨ n = 3 ∨ n = 4 ∨ n = 5 ∨ n = 6 ∨ n = 7 ∨ n = 8 ∨ n = 9 ∨ n = 10 ∨ n = 11 ∨ n = 12 ∨ n = 13 ∨ n = 14 := by omega
  rcases this with rfl | rfl | rfl | rfl | rfl | rfl | rfl | rfl | rfl | rfl | rfl | rfl | rfl | rfl <;> decide

/-- Less level, no more brackets. -/
theorem out_mono {x : Item} (h : WX x) {a b : Nat} (hab : a ≤ b) : wt (outX a x) ≤ wt (outX b x) ∧ depX a x ≤ depX b x := by
  rcases WX_cases h with ⟨n, c, rfl⟩ | ⟨t, c, rfl⟩ | ⟨t, c, y, rfl, hy⟩ | ⟨n, c, y, rfl, hn, hy⟩ | ⟨n, c, y, z, rfl, hn1, hn2, hy, hz⟩
  · exact ⟨Nat.le_refl _, Nat.le_refl _⟩
  · exact ⟨Nat.le_refl _, Nat.le_refl _⟩
  · exact ⟨Nat.le_refl _, Nat.le_refl _⟩
  · exact ⟨Nat.le_refl _, Nat.le_refl _⟩
  · simp only [outX, depX, Int.toNat_natCast]
    by_cases h1 : levelN n < a
    · rw [if_pos h1, if_pos h1, if_pos (by omega), if_pos (by omega)]; exact ⟨Nat.le_refl _, Nat.le_refl _⟩
    · rw [if_neg h1, if_neg h1]
      split
      · simp only [wt_mk4, wt_append]; exact ⟨by omega, by omega⟩
      · exact ⟨Nat.le_refl _, Nat.le_refl _⟩
/-- In brackets it is as in level 1. -/
theorem out_four {x : Item} (h : WX x) : wt (outX 4 x) ≤ wt (outX 1 x) + 4 ∧ depX 4 x ≤ depX 1 x + 1 := by
  rcases WX_cases h with ⟨n, c, rfl⟩ | ⟨t, c, rfl⟩ | ⟨t, c, y, rfl, hy⟩ | ⟨n, c, y, rfl, hn, hy⟩ | ⟨n, c, y, z, rfl, hn1, hn2, hy, hz⟩
  · exact ⟨by simp [outX], by simp [depX]⟩
  · exact ⟨by simp [outX], by simp [depX]⟩
  · exact ⟨by simp [outX], by simp [depX]⟩
  · exact ⟨by simp [outX], by simp [depX]⟩
  · obtain ⟨l1, l3⟩ := level_range n
    simp only [outX, depX, Int.toNat_natCast]
    have h4 : levelN n < 4 := by omega
    have h1 : ¬ levelN n < 1 := by omega
    simp only [h4, h1, if_true, if_false, wt_mk4, wt_append, wt, List.length_cons, List.length_nil]
    have c1 : (mk4 [41]).2.1.length = 1 := rfl
    exact ⟨by omega, by omega⟩

/-- What is read as an expression of a level. -/
structure Xs (of d : Nat) (ts : List Tok) (x : Item) (r : List Tok) : Prop where
  s : WX x
  g : GoodI x
  d : d + depX of x ≤ 64
  l : Ls ts r (wt (outX of x))
theorem shapeX : ∀ f : Nat,
    (∀ of d ts x r, EndL ts → TGs ts → d ≤ 64 → of ≤ 4 → binS f of d ts = .ok (x, r) → Xs of d ts x r) ∧
    (∀ of d a x0 ts x r k, EndL ts → TGs ts → of ≤ 3 → WX x0 → GoodI x0 → d + depX of x0 ≤ 64 → wt (outX of x0) + Wt ts ≤ k → loopS f of d a x0 ts = .ok (x, r) → WX x ∧ GoodI x ∧ d + depX of x ≤ 64 ∧ EndL r ∧ TGs r ∧ wt (outX of x) + Wt r ≤ k) ∧
    (∀ d ts x r, EndL ts → TGs ts → d ≤ 64 → unS f d ts = .ok (x, r) → Xs 4 d ts x r) ∧
    (∀ d ts x r, EndL ts → TGs ts → d ≤ 64 → facS f d ts = .ok (x, r) → Xs 4 d ts x r)
  | 0 => ⟨by intros; simp_all [binS], by intros; simp_all [loopS], by intros; simp_all [unS], by intros; simp_all [facS]⟩
  | f + 1 => by
    obtain ⟨hb, hl, hu, hf⟩ := shapeX f
    refine ⟨?_, ?_, ?_, ?_⟩
    · intro of d ts x r he hg hd ho h
      unfold binS at h
      split at h
      · obtain rfl : of = 4 := by omega
        exact hu d ts x r he hg hd h
      · split at h
        · cases h
        · rename_i y ts1 h1
          have a := hb _ _ _ _ _ he hg hd (by omega) h1
          have m := out_mono a.s (show of ≤ of + 1 by omega)
          have aw := a.l.w
          have ad := a.d
          obtain ⟨b1, b2, b3, b4, b5, b6⟩ := hl of d (nowAt ts) y ts1 x r (Wt ts) a.l.e a.l.g (by omega) a.s a.g (by omega) (by omega) h
          exact ⟨b1, b2, b3, b4, b5, b6⟩
    · intro of d a x0 ts x r k he hg ho hw hgx hd hk h
      unfold loopS at h
      split at h
      · injection h with h; injection h with h1 h2; subst h1 h2; exact ⟨hw, hgx, hd, he, hg, hk⟩
      · rename_i hm
        obtain ⟨t1, t2⟩ := markOf_tail he hm
        obtain ⟨m1, m2, m3, m4⟩ := mark_wt hm
        have mw := isT_wt m4
        split at h
        · cases h
        · rename_i y ts1 h1
          have b := hb _ _ _ _ _ t1 hg.tail (by omega) (by omega) h1
          have bw := b.l.w
          have bd := b.d
          have hw' : WX (.mk 21 [] (markOf of ts) a [x0, y]) := ⟨rfl, ⟨by omega, by omega⟩, hw, b.s⟩
          have hg' : GoodI (.mk 21 [] (markOf of ts) a [x0, y]) := ⟨by decide, ⟨by omega, by omega⟩, hgx, b.g, trivial⟩
          have ho' : outX of (.mk 21 [] (markOf of ts) a [x0, y]) = outX of x0 ++ mk4 (markText (markOf of ts)) :: outX (of + 1) y := by
            simp only [outX, Int.toNat_natCast, m3, Nat.lt_irrefl, if_false]
          have hd' : depX of (.mk 21 [] (markOf of ts) a [x0, y]) = max (depX of x0) (depX (of + 1) y) := by
            simp only [depX, Int.toNat_natCast, m3, Nat.lt_irrefl, if_false]
          refine hl of d a _ ts1 x r k b.l.e b.l.g ho hw' hg' (by rw [hd']; omega) ?_ h
          rw [ho', wt_append, wt_mk4]; omega
    · intro d ts x r he hg hd h
      have un : ∀ (m : List UInt8) (n : Int), m.length = 1 → (n = 1 ∨ n = 2) → (match openT m d ts with
          | .error e => .error e
          | .ok ts1 => match unS f (d + 1) ts1 with
            | .error e => .error e
            | .ok (x, ts2) => .ok (Item.mk 20 [] n (nowAt ts) [x], ts2)) = Except.ok (x, r) → Xs 4 d ts x r := by
        intro m n hm hn h
        split at h
        · cases h
        · rename_i ts1 h0
          obtain ⟨c, cd⟩ := open_ls he hg h0
          split at h
          · cases h
          · rename_i y ts2 h1
            have a := hu _ _ _ _ c.e c.g (by omega) h1
            injection h with h; injection h with h1 h2; subst h1 h2
            have aw := a.l.w
            have cw := c.w
            have ad := a.d
            refine ⟨⟨rfl, hn, a.s⟩, ⟨by decide, ⟨by omega, by omega⟩, a.g, trivial⟩, ?_, a.l.e, a.l.g, ?_⟩
            · simp only [depX]; omega
            · simp only [outX, wt_mk4]
              have : (if n = 1 then [45] else [33] : List UInt8).length = 1 := by split <;> rfl
              omega
      unfold unS at h
      split at h
      · exact un [45] 1 rfl (Or.inl rfl) h
      · split at h
        · exact un [33] 2 rfl (Or.inr rfl) h
        · exact hf d ts x r he hg hd h
    · intro d ts x r he hg hd h
      unfold facS at h
      split at h
      · rename_i hk
        injection h with h; injection h with h1 h2; subst h1 h2
        obtain ⟨t1, t2⟩ := he.tail (by omega)
        cases ts with
        | nil => cases he
        | cons u r =>
          simp only [nowKind] at hk
          have hu' : u.text = Lib.itoa u.n ∧ 0 ≤ u.n ∧ u.n ≤ 2147483647 := by
            rcases hg u (by simp) with h | h | h | h | h
            · omega
            · omega
            · exact h.2
            · omega
            · omega
          refine ⟨⟨rfl, rfl⟩, ⟨by decide, hu'.2, trivial⟩, ?_, t1, hg.tail, ?_⟩
          · simp only [depX]; omega
          · simp only [outX, wt, nb, nowN, Wt_cons, hu'.1, List.tail_cons]; omega
      · split at h
        · rename_i hk
          obtain ⟨t1, t2⟩ := he.tail (by omega)
          cases ts with
          | nil => cases he
          | cons u r0 =>
          simp only [nowKind] at hk
          have hu' : nameOk u.text = true := by
            rcases hg u (by simp) with h | h | h | h | h
            · exact h.2.2
            all_goals omega
          split at h
          · split at h
            · cases h
            · rename_i ts1 h0
              obtain ⟨c, cd⟩ := open_ls t1 hg.tail h0
              split at h
              · cases h
              · rename_i y ts2 h1
                have a := hb _ _ _ _ _ c.e c.g (by omega) (by omega) h1
                split at h
                · cases h
                · rename_i ts3 h2
                  have e := take_ls a.l.e a.l.g h2
                  injection h with h; injection h with h1 h2; subst h1 h2
                  have aw := a.l.w
                  have cw := c.w
                  have ew := e.w
                  have ad := a.d
                  refine ⟨⟨rfl, a.s⟩, ⟨fun _ => hu', ⟨by omega, by omega⟩, a.g, trivial⟩, ?_, e.e, e.g, ?_⟩
                  · simp only [depX]; omega
                  · simp only [outX, wt, wt_append, nm, mk4, Wt_cons, nowText, List.tail_cons, List.length_cons, List.length_nil] at cw ew ⊢; omega
          · injection h with h; injection h with h1 h2; subst h1 h2
            refine ⟨⟨rfl, rfl⟩, ⟨fun _ => hu', ⟨by omega, by omega⟩, trivial⟩, ?_, t1, hg.tail, ?_⟩
            · simp only [depX]; omega
            · simp only [outX, wt, nm, Wt_cons, nowText, List.tail_cons]; omega
        · split at h
          · cases h
          · rename_i ts1 h0
            obtain ⟨c, cd⟩ := open_ls he hg h0
            split at h
            · cases h
            · rename_i y ts2 h1
              have a := hb _ _ _ _ _ c.e c.g (by omega) (by omega) h1
              split at h
              · cases h
              · rename_i ts3 h2
                have e := take_ls a.l.e a.l.g h2
                injection h with h; injection h with h1 h2; subst h1 h2
                have aw := a.l.w
                have cw := c.w
                have ew := e.w
                have ad := a.d
                obtain ⟨o1, o2⟩ := out_four a.s
                refine ⟨a.s, a.g, by omega, e.e, e.g, ?_⟩
                simp only [List.length_cons, List.length_nil] at cw ew
                omega

theorem bin_shape {f d : Nat} {ts r : List Tok} {x : Item} (he : EndL ts) (hg : TGs ts) (hd : d ≤ 64) (h : binS f 1 d ts = .ok (x, r)) : Xs 1 d ts x r := (shapeX f).1 _ _ _ _ _ he hg hd (by omega) h
theorem ends_shape {f d : Nat} {ts r : List Tok} {x : Item} (he : EndL ts) (hg : TGs ts) (hd : d ≤ 64) (h : endsS f d ts = .ok (x, r)) : WX x ∧ GoodI x ∧ d + depX 1 x ≤ 64 ∧ Ls ts r (wt (outX 1 x) + 2) := by
  unfold endsS at h
  split at h
  · cases h
  rename_i y ts1 h1
  have a := bin_shape he hg hd h1
  split at h
  · cases h
  rename_i ts2 h2
  have b := take_ls a.l.e a.l.g h2
  injection h with h; injection h with h1 h2; subst h1 h2
  have aw := a.l.w
  have bw := b.w
  simp only [List.length_cons, List.length_nil] at bw
  exact ⟨a.s, a.g, a.d, b.e, b.g, by omega⟩
theorem goodL_one {x : Item} (h : GoodI x) : GoodL [x] := ⟨h, trivial⟩
theorem args_shape : ∀ (f d : Nat) (b : Bool) (acc : List Item) (ts r : List Tok) (l : List Item), EndL ts → TGs ts → d ≤ 64 → argsS f d b acc ts = .ok (l, r) →
    ∃ l', l = acc ++ l' ∧ WXs l' ∧ GoodL l' ∧ d + depA l' ≤ 64 ∧ Ls ts r (wt (outA b l'))
  | 0, _, _, _, _, _, _, _, _, _, h => by simp [argsS] at h
  | f + 1, d, b, acc, ts, r, l, he, hg, hd, h => by
    unfold argsS at h
    split at h
    · injection h with h; injection h with h1 h2; subst h1 h2
      exact ⟨[], by simp, trivial, trivial, by simpa [depA] using hd, he, hg, by simp [outA, wt]⟩
    · split at h
      · cases h
      rename_i ts1 h0
      have c : EndL ts1 ∧ TGs ts1 ∧ wt (if b then [] else [mk4 [44]]) + Wt ts1 ≤ Wt ts := by
        cases b
        · have := take_ls he hg h0
          have cw := this.w
          simp only [List.length_cons, List.length_nil] at cw
          refine ⟨this.e, this.g, ?_⟩
          simp only [Bool.false_eq_true, if_false, wt_mk4, wt, List.length_cons, List.length_nil]; omega
        · injection h0 with h0; subst h0; exact ⟨he, hg, by simp [wt]⟩
      split at h
      · cases h
      rename_i x ts2 h1
      have a := bin_shape c.1 c.2.1 hd h1
      obtain ⟨l', rfl, b1, b2, b3, b4⟩ := args_shape f d false _ _ _ _ a.l.e a.l.g hd h
      have aw := a.l.w
      have ad := a.d
      have bw := b4.w
      have cw := c.2.2
      refine ⟨x :: l', by simp, ⟨a.s, b1⟩, ⟨a.g, b2⟩, by simp only [depA]; omega, b4.e, b4.g, ?_⟩
      simp only [outA, wt_append]; omega
theorem pars_shape : ∀ (f : Nat) (b : Bool) (acc : List Item) (ts r : List Tok) (l : List Item), EndL ts → TGs ts → parsS f b acc ts = .ok (l, r) →
    ∃ l', l = acc ++ l' ∧ (∀ x ∈ l', WN 4 x) ∧ GoodL l' ∧ Ls ts r (wt (outPs b l'))
  | 0, _, _, _, _, _, _, _, h => by simp [parsS] at h
  | f + 1, b, acc, ts, r, l, he, hg, h => by
    unfold parsS at h
    split at h
    · injection h with h; injection h with h1 h2; subst h1 h2
      exact ⟨[], by simp, by simp, trivial, he, hg, by simp [outPs, wt]⟩
    · split at h
      · cases h
      rename_i ts1 h0
      have c : EndL ts1 ∧ TGs ts1 ∧ wt (if b then [] else [mk4 [44]]) + Wt ts1 ≤ Wt ts := by
        cases b
        · have := take_ls he hg h0
          have cw := this.w
          simp only [List.length_cons, List.length_nil] at cw
          refine ⟨this.e, this.g, ?_⟩
          simp only [Bool.false_eq_true, if_false, wt_mk4, wt, List.length_cons, List.length_nil]; omega
        · injection h0 with h0; subst h0; exact ⟨he, hg, by simp [wt]⟩
      split at h
      · cases h
      rename_i x ts2 h1
      obtain ⟨a, an⟩ := name_ls c.1 c.2.1 h1
      obtain ⟨l', rfl, b1, b2, b4⟩ := pars_shape f false _ _ _ _ a.e a.g h
      have aw := a.w
      have bw := b4.w
      have cw := c.2.2
      refine ⟨.mk 4 x 0 (nowAt ts1) [] :: l', by simp, ?_, ⟨⟨fun _ => an, ⟨by omega, by omega⟩, trivial⟩, b2⟩, b4.e, b4.g, ?_⟩
      · intro z hz
        rcases List.mem_cons.1 hz with rfl | hz
        · exact ⟨rfl, rfl, rfl⟩
        · exact b1 z hz
      · simp only [outPs, wt_append, wt_nm, textI]; omega

/-- What is read as a statement, or a block (false). -/
structure Ss (b : Bool) (d : Nat) (ts : List Tok) (x : Item) (r : List Tok) : Prop where
  s : WS b x
  g : GoodI x
  d : d + depS x ≤ 64
  l : Ls ts r (wt (outS x))
theorem wordKinds_len {t : List UInt8} {k : Nat} (h : (wordKinds.lookup t).getD 0 = k) (hk : k ≠ 0) : ∃ w, (w, k) ∈ wordKinds ∧ t = w := by
  have : ∀ (l : List (List UInt8 × Nat)), (l.lookup t).getD 0 = k → ∃ w, (w, k) ∈ l ∧ t = w := by
    intro l
    induction l with
    | nil => intro h; exact absurd h.symm hk
    | cons p r ih =>
      intro h
      obtain ⟨w, k'⟩ := p
      rw [List.lookup_cons] at h
      by_cases e : t = w
      · subst e
        simp at h
        exact ⟨t, by simp [h], rfl⟩
      · rw [show (t == w) = false by simp [e]] at h
        obtain ⟨w', a, b⟩ := ih h
        exact ⟨w', by simp [a], b⟩
  exact this _ h
theorem word_ls {ts : List Tok} (he : EndL ts) (hg : TGs ts) (h : wordKind ts ≠ 0) : ∃ w, (w, wordKind ts) ∈ wordKinds ∧ Ls ts ts.tail (w.length + 1) := by
  obtain ⟨t1, t2⟩ := wordKind_tail he h
  cases ts with
  | nil => cases he
  | cons t r =>
    have h' := h
    unfold wordKind at h'
    split at h'
    · rename_i hk
      obtain ⟨w, a, b⟩ := wordKinds_len rfl h'
      simp only [nowText] at b
      refine ⟨w, ?_, t1, hg.tail, by rw [Wt_cons, b]; exact Nat.le_refl _⟩
      unfold wordKind
      rw [if_pos hk]; exact a
    · exact absurd rfl h'
theorem declare_shape {f d a : Nat} {ts r : List Tok} {x : Item} (he : EndL ts) (hg : TGs ts) (hd : d ≤ 64) (h : declareS f d a ts = .ok (x, r)) : WS true x ∧ GoodI x ∧ d + depS x ≤ 64 ∧ ∃ k, wt (outS x) = k + 4 ∧ Ls ts r k := by
  unfold declareS at h
  split at h
  · cases h
  rename_i t ts1 h1
  obtain ⟨a1, an⟩ := name_ls he hg h1
  split at h
  · cases h
  rename_i ts2 h2
  have b := take_ls a1.e a1.g h2
  split at h
  · cases h
  rename_i y ts3 h3
  obtain ⟨c1, c2, c3, c4⟩ := ends_shape b.e b.g hd h3
  injection h with h; injection h with h1 h2; subst h1 h2
  have aw := a1.w
  have bw := b.w
  have cw := c4.w
  simp only [List.length_cons, List.length_nil] at bw
  have hd' : depS (.mk 6 t 0 a [y]) = depX 1 y := by rw [depS] <;> (intros; first | contradiction | (rename_i h; cases h; done) | omega | simp)
  refine ⟨.declare _ _ _ c1, ⟨fun _ => an, ⟨by omega, by omega⟩, goodL_one c2⟩, by rw [hd']; exact c3, wt (outS (.mk 6 t 0 a [y])) - 4, ?_, c4.e, c4.g, ?_⟩
  · rw [outS]
    simp only [wt_wd, wt_nm, wt_mk4, wt_append, wt_nil, List.length_cons, List.length_nil]
    omega
  · rw [outS]
    simp only [wt_wd, wt_nm, wt_mk4, wt_append, wt_nil, List.length_cons, List.length_nil]
    omega
theorem read_shape {a d : Nat} {ts r : List Tok} {x : Item} (he : EndL ts) (hg : TGs ts) (hd : d ≤ 64) (h : readS a ts = .ok (x, r)) : WS true x ∧ GoodI x ∧ d + depS x ≤ 64 ∧ ∃ k, wt (outS x) = k + 5 ∧ Ls ts r k := by
  unfold readS at h
  split at h
  · cases h
  rename_i t ts1 h1
  obtain ⟨a1, an⟩ := name_ls he hg h1
  split at h
  · cases h
  rename_i ts2 h2
  have b := take_ls a1.e a1.g h2
  injection h with h; injection h with h1 h2; subst h1 h2
  have aw := a1.w
  have bw := b.w
  simp only [List.length_cons, List.length_nil] at bw
  have hd' : depS (.mk 14 t 0 a []) = 0 := by rw [depS] <;> (intros; first | contradiction | (rename_i h; cases h; done) | omega | simp)
  refine ⟨.read _ _, ⟨fun _ => an, ⟨by omega, by omega⟩, trivial⟩, by rw [hd']; omega, wt (outS (.mk 14 t 0 a [])) - 5, ?_, b.e, b.g, ?_⟩
  · rw [outS]
    simp only [wt_wd, wt_nm, wt_mk4, wt_nil, List.length_cons, List.length_nil]
    omega
  · rw [outS]
    simp only [wt_wd, wt_nm, wt_mk4, wt_nil, List.length_cons, List.length_nil]
    omega
theorem call_shape {f d a : Nat} {ts r : List Tok} {x : Item} (he : EndL ts) (hg : TGs ts) (hd : d ≤ 64) (h : callS f d a ts = .ok (x, r)) : WS true x ∧ GoodI x ∧ d + depS x ≤ 64 ∧ ∃ k, wt (outS x) = k + 5 ∧ Ls ts r k := by
  unfold callS at h
  split at h
  · cases h
  rename_i t ts1 h1
  obtain ⟨a1, an⟩ := name_ls he hg h1
  split at h
  · cases h
  rename_i ts2 h2
  have b := take_ls a1.e a1.g h2
  split at h
  · cases h
  rename_i u ts3 h3
  obtain ⟨c, cn⟩ := name_ls b.e b.g h3
  split at h
  · cases h
  rename_i ts4 h4
  have e := take_ls c.e c.g h4
  split at h
  · cases h
  rename_i l ts5 h5
  obtain ⟨l', rfl, q1, q2, q3, q4⟩ := args_shape _ _ _ _ _ _ _ e.e e.g hd h5
  split at h
  · cases h
  rename_i ts6 h6
  have g := take_ls q4.e q4.g h6
  split at h
  · cases h
  rename_i ts7 h7
  have j := take_ls g.e g.g h7
  injection h with h; injection h with h1 h2; subst h1 h2
  have aw := a1.w
  have bw := b.w
  have cw := c.w
  have ew := e.w
  have qw := q4.w
  have gw := g.w
  have jw := j.w
  simp only [List.length_cons, List.length_nil] at bw ew gw jw
  try simp only [List.nil_append]
  have hd' : depS (.mk 15 t 0 a (.mk 16 u 0 (nowAt ts2) [] :: l)) = depA l := by rw [depS]
  refine ⟨.call _ _ _ _ _ q1, ⟨fun _ => an, ⟨by omega, by omega⟩, ⟨fun _ => cn, ⟨by omega, by omega⟩, trivial⟩, q2⟩, by rw [hd']; exact q3, wt (outS (.mk 15 t 0 a (.mk 16 u 0 (nowAt ts2) [] :: l))) - 5, ?_, j.e, j.g, ?_⟩
  · rw [outS]
    simp only [wt_wd, wt_nm, wt_mk4, wt_append, wt_nil, List.length_cons, List.length_nil]
    omega
  · rw [outS]
    simp only [textI]
    simp only [wt_wd, wt_nm, wt_mk4, wt_append, wt_nil, List.length_cons, List.length_nil]
    omega
theorem assign_shape {f d : Nat} {ts r : List Tok} {x : Item} (he : EndL ts) (hg : TGs ts) (hd : d ≤ 64) (h : assignS f d ts = .ok (x, r)) : Ss true d ts x r := by
  unfold assignS at h
  split at h
  · cases h
  rename_i t ts1 h1
  obtain ⟨a1, an⟩ := name_ls he hg h1
  have aw := a1.w
  split at h
  · split at h
    · cases h
    rename_i ts2 h2
    obtain ⟨b, bd⟩ := open_ls a1.e a1.g h2
    split at h
    · cases h
    rename_i y ts3 h3
    have c := bin_shape b.e b.g (by omega) h3
    split at h
    · cases h
    rename_i ts4 h4
    have e := take_ls c.l.e c.l.g h4
    split at h
    · cases h
    rename_i ts5 h5
    have g := take_ls e.e e.g h5
    split at h
    · cases h
    rename_i z ts6 h6
    obtain ⟨j1, j2, j3, j4⟩ := ends_shape g.e g.g hd h6
    injection h with h; injection h with h1 h2; subst h1 h2
    have bw := b.w
    have cw := c.l.w
    have cd := c.d
    have ew := e.w
    have gw := g.w
    have jw := j4.w
    simp only [List.length_cons, List.length_nil] at bw ew gw
    refine ⟨.store _ _ _ _ c.s j1, ⟨fun _ => an, ⟨by omega, by omega⟩, c.g, j2, trivial⟩, ?_, j4.e, j4.g, ?_⟩
    · rw [depS]; omega
    · rw [outS]
      simp only [wt_nm, wt_mk4, wt_append, wt_nil, List.length_cons, List.length_nil]
      omega
  · split at h
    · cases h
    rename_i ts2 h2
    have b := take_ls a1.e a1.g h2
    split at h
    · cases h
    rename_i z ts6 h6
    obtain ⟨j1, j2, j3, j4⟩ := ends_shape b.e b.g hd h6
    injection h with h; injection h with h1 h2; subst h1 h2
    have bw := b.w
    have jw := j4.w
    simp only [List.length_cons, List.length_nil] at bw
    have hd' : depS (.mk 7 t 0 (nowAt ts) [z]) = depX 1 z := by rw [depS] <;> (intros; first | contradiction | (rename_i h; cases h; done) | omega | simp)
    refine ⟨.assign _ _ _ j1, ⟨fun _ => an, ⟨by omega, by omega⟩, goodL_one j2⟩, by rw [hd']; exact j3, j4.e, j4.g, ?_⟩
    rw [outS]
    simp only [wt_nm, wt_mk4, wt_append, wt_nil, List.length_cons, List.length_nil]
    omega

theorem shapeS : ∀ f : Nat,
    (∀ d ts x r, EndL ts → TGs ts → d ≤ 64 → blockS f d ts = .ok (x, r) → Ss false d ts x r) ∧
    (∀ d acc ts l r, EndL ts → TGs ts → d ≤ 64 → stmtsS f d acc ts = .ok (l, r) → ∃ l', l = acc ++ l' ∧ (∀ x ∈ l', WS true x) ∧ GoodL l' ∧ d + depSs l' ≤ 64 ∧ Ls ts r (wt (outSs l'))) ∧
    (∀ d a ts x r, EndL ts → TGs ts → d ≤ 64 → chooseS f d a ts = .ok (x, r) → WS true x ∧ GoodI x ∧ d + depS x ≤ 64 ∧ ∃ k, wt (outS x) = k + 3 ∧ Ls ts r k) ∧
    (∀ d a ts x r, EndL ts → TGs ts → d ≤ 64 → forS f d a ts = .ok (x, r) → WS true x ∧ GoodI x ∧ d + depS x ≤ 64 ∧ ∃ k, wt (outS x) = k + 4 ∧ Ls ts r k) ∧
    (∀ d ts x r, EndL ts → TGs ts → d ≤ 64 → stmtS f d ts = .ok (x, r) → Ss true d ts x r)
  | 0 => ⟨by intros; simp_all [blockS], by intros; simp_all [stmtsS], by intros; simp_all [chooseS], by intros; simp_all [forS], by intros; simp_all [stmtS]⟩
  | f + 1 => by
    obtain ⟨hb, hl, hc, hf, hs⟩ := shapeS f
    refine ⟨?_, ?_, ?_, ?_, ?_⟩
    · intro d ts x r he hg hd h
      unfold blockS at h
      split at h
      · cases h
      rename_i ts1 h1
      obtain ⟨a, ad⟩ := open_ls he hg h1
      split at h
      · cases h
      rename_i l ts2 h2
      obtain ⟨l', rfl, b1, b2, b3, b4⟩ := hl _ _ _ _ _ a.e a.g (by omega) h2
      split at h
      · cases h
      rename_i ts3 h3
      have c := take_ls b4.e b4.g h3
      injection h with h; injection h with h1 h2; subst h1 h2
      have aw := a.w
      have bw := b4.w
      have cw := c.w
      simp only [List.length_cons, List.length_nil] at aw cw
      try simp only [List.nil_append]
      refine ⟨.block _ _ b1, ⟨by decide, ⟨by omega, by omega⟩, b2⟩, ?_, c.e, c.g, ?_⟩
      · rw [depS]; omega
      · rw [outS]
        simp only [wt_mk4, wt_append, wt_nil, List.length_cons, List.length_nil]
        omega
    · intro d acc ts l r he hg hd h
      unfold stmtsS at h
      split at h
      · injection h with h; injection h with h1 h2; subst h1 h2
        exact ⟨[], by simp, by simp, trivial, by simpa [depSs] using hd, he, hg, by simp [outSs, wt]⟩
      split at h
      · cases h
      rename_i y ts1 h1
      have a := hs _ _ _ _ he hg hd h1
      obtain ⟨l', rfl, b1, b2, b3, b4⟩ := hl _ _ _ _ _ a.l.e a.l.g hd h
      have aw := a.l.w
      have ad := a.d
      have bw := b4.w
      refine ⟨y :: l', by simp, ?_, ⟨a.g, b2⟩, by simp only [depSs]; omega, b4.e, b4.g, by simp only [outSs, wt_append]; omega⟩
      intro z hz
      rcases List.mem_cons.1 hz with rfl | hz
      · exact a.s
      · exact b1 z hz
    · intro d a ts x r he hg hd h
      unfold chooseS at h
      split at h
      · cases h
      rename_i y ts1 h1
      have p := bin_shape he hg hd h1
      split at h
      · cases h
      rename_i b ts2 h2
      have q := hb _ _ _ _ p.l.e p.l.g hd h2
      have pw := p.l.w
      have pd := p.d
      have qw := q.l.w
      have qd := q.d
      split at h
      · rename_i hi
        obtain ⟨t1, t2⟩ := q.l.e.tail (isT_kind hi)
        have iw := isT_wt hi
        simp only [List.length_cons, List.length_nil] at iw
        split at h
        · cases h
        rename_i c ts3 h3
        have s := hb _ _ _ _ t1 q.l.g.tail hd h3
        have sw := s.l.w
        have sd := s.d
        injection h with h; injection h with h1 h2; subst h1 h2
        refine ⟨.if2 _ _ _ _ p.s q.s s.s, ⟨by decide, ⟨by omega, by omega⟩, p.g, q.g, s.g, trivial⟩, by rw [depS]; omega, wt (outS (.mk 9 [] 0 a [y, b, c])) - 3, ?_, s.l.e, s.l.g, ?_⟩
        · rw [outS]
          simp only [wt_wd, wt_append, List.length_cons, List.length_nil]
          omega
        · rw [outS]
          simp only [wt_wd, wt_append, List.length_cons, List.length_nil]
          omega
      · injection h with h; injection h with h1 h2; subst h1 h2
        refine ⟨.if1 _ _ _ p.s q.s, ⟨by decide, ⟨by omega, by omega⟩, p.g, q.g, trivial⟩, by rw [depS]; omega, wt (outS (.mk 9 [] 0 a [y, b])) - 3, ?_, q.l.e, q.l.g, ?_⟩
        · rw [outS]
          simp only [wt_wd, wt_append, List.length_cons, List.length_nil]
          omega
        · rw [outS]
          simp only [wt_wd, wt_append, List.length_cons, List.length_nil]
          omega
    · intro d a ts x r he hg hd h
      unfold forS at h
      split at h
      · cases h
      rename_i y ts1 h1
      have p := bin_shape he hg hd h1
      split at h
      · cases h
      rename_i b ts2 h2
      have q := hb _ _ _ _ p.l.e p.l.g hd h2
      have pw := p.l.w
      have pd := p.d
      have qw := q.l.w
      have qd := q.d
      injection h with h; injection h with h1 h2; subst h1 h2
      refine ⟨.for1 _ _ _ p.s q.s, ⟨by decide, ⟨by omega, by omega⟩, p.g, q.g, trivial⟩, by rw [depS]; omega, wt (outS (.mk 10 [] 0 a [y, b])) - 4, ?_, q.l.e, q.l.g, ?_⟩
      · rw [outS]
        simp only [wt_wd, wt_append, List.length_cons, List.length_nil]
        omega
      · rw [outS]
        simp only [wt_wd, wt_append, List.length_cons, List.length_nil]
        omega
    · intro d ts x r he hg hd h
      unfold stmtS at h
      split at h
      · exact assign_shape he hg hd h
      rename_i hw
      obtain ⟨w, wm, wl⟩ := word_ls he hg hw
      have ww := wl.w
      have wk : ∀ k n, wordKind ts = k → (∀ p ∈ wordKinds, p.2 = k → p.1.length = n) → w.length = n := fun k n hk hp => hp _ wm hk
      split at h
      · rename_i hk
        obtain ⟨a1, a2, a3, k, a4, a5⟩ := declare_shape wl.e wl.g hd h
        have := wk 6 3 hk (by decide)
        have a5w := a5.w
        exact ⟨a1, a2, a3, a5.e, a5.g, by omega⟩
      split at h
      · rename_i hk
        obtain ⟨a1, a2, a3, k, a4, a5⟩ := hc _ _ _ _ _ wl.e wl.g hd h
        have := wk 9 2 hk (by decide)
        have a5w := a5.w
        exact ⟨a1, a2, a3, a5.e, a5.g, by omega⟩
      split at h
      · rename_i hk
        obtain ⟨a1, a2, a3, k, a4, a5⟩ := hf _ _ _ _ _ wl.e wl.g hd h
        have := wk 10 3 hk (by decide)
        have a5w := a5.w
        exact ⟨a1, a2, a3, a5.e, a5.g, by omega⟩
      split at h
      · rename_i hk
        obtain ⟨a1, a2, a3, k, a4, a5⟩ := read_shape (d := d) wl.e wl.g hd h
        have := wk 14 4 hk (by decide)
        have a5w := a5.w
        exact ⟨a1, a2, a3, a5.e, a5.g, by omega⟩
      split at h
      · rename_i hk
        obtain ⟨a1, a2, a3, k, a4, a5⟩ := call_shape wl.e wl.g hd h
        have := wk 15 4 hk (by decide)
        have a5w := a5.w
        exact ⟨a1, a2, a3, a5.e, a5.g, by omega⟩
      rename_i n6 n9 n10 n14 n15
      split at h
      · cases h
      rename_i y ts1 h1
      obtain ⟨c1, c2, c3, c4⟩ := ends_shape wl.e wl.g hd h1
      injection h with h; injection h with h1 h2; subst h1 h2
      have cw := c4.w
      have hk : (wordKind ts = 11 ∧ w.length = 6) ∨ (wordKind ts = 12 ∧ w.length = 5) ∨ (wordKind ts = 13 ∧ w.length = 4) := by
        have : ∀ p ∈ wordKinds, p.2 = 6 ∨ p.2 = 9 ∨ p.2 = 10 ∨ p.2 = 14 ∨ p.2 = 15 ∨ (p.2 = 11 ∧ p.1.length = 6) ∨ (p.2 = 12 ∧ p.1.length = 5) ∨ (p.2 = 13 ∧ p.1.length = 4) := by decide
        have := this _ wm
        simp only at this
        omega
      generalize wordKind ts = k at *
      have hd' : depS (.mk k [] 0 (nowAt ts) [y]) = depX 1 y := by rcases hk with ⟨rfl, _⟩ | ⟨rfl, _⟩ | ⟨rfl, _⟩ <;> (rw [depS] <;> (intros; first | contradiction | (rename_i h; cases h; done) | omega | simp))
      refine ⟨.ret _ _ _ (by omega) c1, ⟨fun hn => ?_, ⟨by omega, by omega⟩, goodL_one c2⟩, by rw [hd']; exact c3, c4.e, c4.g, ?_⟩
      · rcases hk with ⟨rfl, _⟩ | ⟨rfl, _⟩ | ⟨rfl, _⟩ <;> exact absurd hn (by decide)
      · rcases hk with ⟨rfl, hl⟩ | ⟨rfl, hl⟩ | ⟨rfl, hl⟩
        · rw [outS]
          simp only [wt_wd, wt_mk4, wt_append, wt_nil, List.length_cons, List.length_nil]
          omega
        · rw [outS]
          simp only [wt_wd, wt_mk4, wt_append, wt_nil, List.length_cons, List.length_nil]
          omega
        · rw [outS]
          simp only [wt_wd, wt_mk4, wt_append, wt_nil, List.length_cons, List.length_nil]
          omega

theorem array_shape {ts r : List Tok} {x : Item} (he : EndL ts) (hg : TGs ts) (h : arrayS ts = .ok (x, r)) : WD x ∧ GoodI x ∧ depD x ≤ 64 ∧ Ls ts r (wt (outD x)) := by
  unfold arrayS at h
  split at h
  · cases h
  rename_i ts1 h1
  have a := take_ls he hg h1
  split at h
  · cases h
  rename_i t ts2 h2
  obtain ⟨b, bn⟩ := name_ls a.e a.g h2
  split at h
  · cases h
  rename_i ts3 h3
  have c := take_ls b.e b.g h3
  split at h
  · rename_i hk
    obtain ⟨k1, k2⟩ := c.e.tail (by omega)
    cases ts3 with
    | nil => cases c.e
    | cons u r0 =>
    simp only [nowKind] at hk
    have hu' : u.text = Lib.itoa u.n ∧ 0 ≤ u.n ∧ u.n ≤ 2147483647 := by
      rcases c.g u (by simp) with h | h | h | h | h
      · omega
      · omega
      · exact h.2
      · omega
      · omega
    split at h
    · cases h
    rename_i ts4 h4
    have d := take_ls k1 c.g.tail h4
    split at h
    · cases h
    rename_i ts5 h5
    have e := take_ls d.e d.g h5
    injection h with h; injection h with h1 h2; subst h1 h2
    have aw := a.w
    have bw := b.w
    have cw := c.w
    have dw := d.w
    have ew := e.w
    rw [Wt_cons, hu'.1] at cw
    simp only [List.length_cons, List.length_nil, List.tail_cons] at aw cw dw ew
    refine ⟨.array _ _ _, ⟨fun _ => bn, hu'.2, trivial⟩, Nat.zero_le _, e.e, e.g, ?_⟩
    simp only [outD, nowN, wt_wd, wt_nm, wt_mk4, wt_nb, wt_nil, List.length_cons, List.length_nil]
    omega
  · cases h
theorem func_shape {f : Nat} {ts r : List Tok} {x : Item} (he : EndL ts) (hg : TGs ts) (h : funcS f ts = .ok (x, r)) : WD x ∧ GoodI x ∧ depD x ≤ 64 ∧ Ls ts r (wt (outD x)) := by
  unfold funcS at h
  split at h
  · cases h
  rename_i ts1 h1
  have a := take_ls he hg h1
  split at h
  · cases h
  rename_i t ts2 h2
  obtain ⟨b, bn⟩ := name_ls a.e a.g h2
  split at h
  · cases h
  rename_i ts3 h3
  have c := take_ls b.e b.g h3
  split at h
  · cases h
  rename_i l ts4 h4
  obtain ⟨l', rfl, d1, d2, d3⟩ := pars_shape _ _ _ _ _ _ c.e c.g h4
  split at h
  · cases h
  rename_i ts5 h5
  have e := take_ls d3.e d3.g h5
  split at h
  · cases h
  rename_i y ts6 h6
  have g := (shapeS f).1 _ _ _ _ e.e e.g (by omega) h6
  injection h with h; injection h with h1 h2; subst h1 h2
  have aw := a.w
  have bw := b.w
  have cw := c.w
  have dw := d3.w
  have ew := e.w
  have gw := g.l.w
  have gd := g.d
  simp only [List.length_cons, List.length_nil] at aw cw ew
  try simp only [List.nil_append]
  refine ⟨.func _ _ _ _ d1 g.s, ⟨fun _ => bn, ⟨by omega, by omega⟩, goodL_append d2 (goodL_one g.g)⟩, ?_, g.l.e, g.l.g, ?_⟩
  · simp only [depD, List.getLast?_concat]; omega
  · simp only [outD, List.dropLast_concat, List.getLast?_concat, wt_wd, wt_nm, wt_mk4, wt_append, List.length_cons, List.length_nil]
    omega
theorem parts_shape : ∀ (f : Nat) (acc : List Item) (ts : List Tok) (l : List Item), EndL ts → TGs ts → partsS f acc ts = .ok l → ∃ l', l = acc ++ l' ∧ (∀ x ∈ l', WD x) ∧ GoodL l' ∧ depDs l' ≤ 64 ∧ wt (outDs l') ≤ Wt ts
  | 0, _, _, _, _, _, h => by simp [partsS] at h
  | f + 1, acc, ts, l, he, hg, h => by
    unfold partsS at h
    split at h
    · injection h with h; subst h
      exact ⟨[], by simp, by simp, trivial, by simp [depDs], by simp [outDs, wt]⟩
    have key : ∀ x ts1, WD x ∧ GoodI x ∧ depD x ≤ 64 ∧ Ls ts ts1 (wt (outD x)) → partsS f (acc ++ [x]) ts1 = .ok l → ∃ l', l = acc ++ l' ∧ (∀ x ∈ l', WD x) ∧ GoodL l' ∧ depDs l' ≤ 64 ∧ wt (outDs l') ≤ Wt ts := by
      intro x ts1 ⟨a1, a2, a3, a4⟩ h
      obtain ⟨l', rfl, b1, b2, b3, b4⟩ := parts_shape f _ _ _ a4.e a4.g h
      have aw := a4.w
      refine ⟨x :: l', by simp, ?_, ⟨a2, b2⟩, by simp only [depDs]; omega, by simp only [outDs, wt_append]; omega⟩
      intro z hz
      rcases List.mem_cons.1 hz with rfl | hz
      · exact a1
      · exact b1 z hz
    by_cases hv : isT [118, 97, 114] ts = true
    · rw [if_pos hv] at h
      split at h
      · cases h
      rename_i x ts1 h1
      exact key _ _ (array_shape he hg h1) h
    · rw [if_neg hv] at h
      split at h
      · cases h
      rename_i x ts1 h1
      exact key _ _ (func_shape he hg h1) h
/-- WHAT IS READ IS SHAPED. -/
theorem prog_shape {ts : List Tok} {x : Item} (he : EndL ts) (hg : TGs ts) (h : progS ts = .ok x) : WP x ∧ GoodI x ∧ depP x ≤ 64 ∧ wt (outP x) ≤ Wt ts := by
  unfold progS at h
  split at h
  · cases h
  rename_i l h1
  obtain ⟨l', rfl, b1, b2, b3, b4⟩ := parts_shape _ _ _ _ he hg h1
  injection h with h; subst h
  exact ⟨⟨rfl, rfl, rfl, by simpa using b1⟩, ⟨by decide, ⟨by omega, by omega⟩, by simpa using b2⟩, by simpa [depP] using b3, by simpa [outP] using b4⟩
end Go.Proofs.YtkkeocnnecegbaaGreatDoor
