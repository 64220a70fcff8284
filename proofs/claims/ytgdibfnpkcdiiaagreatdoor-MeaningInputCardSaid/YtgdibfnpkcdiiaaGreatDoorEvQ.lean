/- Maps, reckoned on words (definitions); the compiler of operations, regions and bodies; the evaluator. No condition. -/
import Derived.Test.YtgdibfnpkcdiiaaGreatDoorEvPa
import Derived.Orders
namespace Go.Proofs.YtgdibfnpkcdiiaaGreatDoor
namespace Ev

/-! ### maps -/
def mc (m : Nat) : Nat := Nat.mod (Nat.div m 16) 16777216
def mv (m : Nat) : Nat := Nat.mod (Nat.div m 268435456) 256
def ms (m : Nat) : Nat := Nat.div m 68719476736
noncomputable def opMm (nv : Nat) (st : St) : RS :=
  sel (Nat.blt (Nat.add st.nM 1) 16777216) (fc (ad st.M (Nat.add st.nM 1) (eMp 0 nv st.nM)) fun M => .ok (eMap (Nat.add st.nM 1)) (setM M (Nat.add st.nM 3) st)) .no

/-- Are two keys the same? (Strings, or integers of a kind; none: it can't be told.) -/
noncomputable def kEq (S x y : Nat) : Option Bool :=
  sel (Nat.beq (Nat.mod x 16) 3) (sel (Nat.beq (Nat.mod y 16) 3) (some (strEq S x y)) none) (sel (Nat.beq (Nat.mod x 16) 2) (sel (Nat.beq (Nat.mod x 256) (Nat.mod y 256)) (some (Nat.beq x y)) none) none)
/-- Where a key is: its number and 1 more; 0: nowhere; what can't be told is told last. -/
noncomputable def findK (S M s str k c : Nat) : Nat → Option Nat := fun n => Nat.rec (some 0) (fun i ih =>
  Option.rec none (fun b => sel b (some (Nat.sub c i)) ih) (kEq S k (gt M (Nat.add s (Nat.mul (Nat.sub (Nat.sub c i) 1) str))))) n
noncomputable def opIns (kt nv : Nat) (m k x : Opd) (st : St) : RS :=
  sel (Nat.beq (Nat.mod (rd st.T m) 16) 8) (sel (Nat.beq (Nat.mod (rd st.T k) 16) kt) (fc (gt st.M (Nat.div (rd st.T m) 16)) fun d => sel (Nat.beq (mv d) nv)
    (Option.rec .no (fun j => sel (Nat.beq j 0) (sel (Nat.blt st.nM 16777216) (sel (Nat.blt (Nat.add (mc d) 1) 16777216)
      (sel (sel (Nat.beq nv 0) (cellB (rd st.T x)) (sel (Nat.beq (Nat.mod (rd st.T x) 16) 12) (Nat.beq (ln (rd st.T x)) nv) false))
        (fc (ad st.M st.nM (ad (ch st.M (ms d) (Nat.mul (mc d) (stride nv))) (Nat.mul (mc d) (stride nv)) (ad (rd st.T k) 1 (sel (Nat.beq nv 0) (rd st.T x) (ch st.R (sa (rd st.T x)) nv))))) fun M =>
          fc (up M (Nat.div (rd st.T m) 16) 1 (eMp (Nat.add (mc d) 1) nv st.nM)) fun M => .ok 0 (setM M (Nat.add (Nat.add st.nM (Nat.mul (Nat.add (mc d) 1) (stride nv))) 1) st)) .no) .no) .no) .no)
      (findK st.S st.M (ms d) (stride nv) (rd st.T k) (mc d) (mc d))) .no) .no) .no
noncomputable def opLk (kt nv zc : Nat) (m k : Opd) (st : St) : RS :=
  sel (Nat.beq (Nat.mod (rd st.T m) 16) 8) (sel (Nat.beq (Nat.mod (rd st.T k) 16) kt) (fc (gt st.M (Nat.div (rd st.T m) 16)) fun d => sel (Nat.beq (mv d) nv) (sel (Nat.blt (Nat.add st.nR (Nat.add nv 4)) 4294967296)
    (Option.rec .no (fun j =>
      fc (sel (Nat.beq j 0) zc (ch st.M (Nat.add (Nat.add (ms d) (Nat.mul (Nat.sub j 1) (stride nv))) 1) (sel (Nat.beq nv 0) 1 nv))) fun v =>
      sel (Nat.beq nv 0)
        (fc (ad st.R st.nR (ad v 1 (sel (Nat.beq j 0) 1 17))) fun R => .ok (eTup st.nR 2) (setR R (Nat.add st.nR 2) st))
        (fc (ad st.R st.nR (ad v nv (ad (eAgg st.nR nv) 1 (sel (Nat.beq j 0) 1 17)))) fun R => .ok (eTup (Nat.add st.nR nv) 2) (setR R (Nat.add st.nR (Nat.add nv 2)) st)))
      (findK st.S st.M (ms d) (stride nv) (rd st.T k) (mc d) (mc d))) .no) .no) .no) .no
noncomputable def opLk1 (kt nv zc : Nat) (m k : Opd) (st : St) : RS :=
  sel (Nat.beq (Nat.mod (rd st.T k) 16) kt) (sel (Nat.beq (Nat.mod (rd st.T m) 16) 8) (fc (gt st.M (Nat.div (rd st.T m) 16)) fun d => sel (Nat.beq nv 0) (sel (Nat.beq (mv d) 0)
    (Option.rec .no (fun j => .ok (sel (Nat.beq j 0) zc (gt st.M (Nat.add (Nat.add (ms d) (Nat.mul (Nat.sub j 1) 2)) 1))) st)
      (findK st.S st.M (ms d) 2 (rd st.T k) (mc d) (mc d))) .no) .no) .no) .no

/-! ### the compiler -/
/-- A compiled operation. -/
inductive CO where
  | op (f : St → RS)
  | call (f : Nat) (l : List Opd)
  | dyn (x : Opd) (l : List Opd)
  | dfr (x : Opd) (l : List Opd)

def nop (_ : St) : RS := .no
abbrev no : CO := .op nop

/-- Structs of whole numbers, compared. -/
noncomputable def cSe (P : Program) (K : Kon) (op : BinOp) (t : TypeId) (fs : Array Field) (x y : Operand) : CO :=
  match seFs P fs.toList, P.info? t, op with
  | some l, some i, .eql => if P.eqGuardType P.depth t = false ∧ P.stoodInHeld t = false ∧ (l.all fun q => Nat.blt q.1 i.size) = true then .op (opSe false i.size l (cOp K x) (cOp K y)) else no
  | some l, some i, .neq => if P.eqGuardType P.depth t = false ∧ P.stoodInHeld t = false ∧ (l.all fun q => Nat.blt q.1 i.size) = true then .op (opSe true i.size l (cOp K x) (cOp K y)) else no
  | _, _, _ => no

noncomputable def cBin (P : Program) (K : Kon) (op : BinOp) (t : TypeId) (x y : Operand) : CO :=
  match P.underlying t with
  | some (.int k) => if isCmp op = true then .op (opCmp op (2 + 16 * kc k) (cOp K x) (cOp K y)) else match op with
    | .add => .op (opAdd (2 + 16 * kc k) (eInt k 0) (eInt k k.min) (eInt k k.max) (cOp K x) (cOp K y))
    | .sub => .op (opSub (2 + 16 * kc k) (eInt k 0) (eInt k k.min) (eInt k k.max) (cOp K x) (cOp K y))
    | op => .op (opInt op k (2 + 16 * kc k) (cOp K x) (cOp K y))
  | some .string => match op with
    | .eql => .op (opStr false (cOp K x) (cOp K y))
    | .neq => .op (opStr true (cOp K x) (cOp K y))
    | .add => .op (opCat (cOp K x) (cOp K y))
    | _ => no
  | some .bool => match op with
    | .eql => .op (opBe false (cOp K x) (cOp K y))
    | .neq => .op (opBe true (cOp K x) (cOp K y))
    | _ => no
  | some (.pointer el) => match op, y with
    | .eql, .const (.pointer none) => .op (opNl false 4 5 5 (cOp K x))
    | .neq, .const (.pointer none) => .op (opNl true 4 5 5 (cOp K x))
    | .eql, y => match P.info? el with
      | some i => if i.size ≠ 0 then .op (opPe false (cOp K x) (cOp K y)) else no
      | none => no
    | .neq, y => match P.info? el with
      | some i => if i.size ≠ 0 then .op (opPe true (cOp K x) (cOp K y)) else no
      | none => no
    | _, _ => no
  | some (.slice _) => match op, y with
    | .eql, .const (.slice none 0 _) => .op (opNl false 6 7 7 (cOp K x))
    | .neq, .const (.slice none 0 _) => .op (opNl true 6 7 7 (cOp K x))
    | _, _ => no
  | some (.func _ _ _) => match op, y with
    | .eql, .const .nilFunc => .op (opNl false 25 10 15 (cOp K x))
    | .neq, .const .nilFunc => .op (opNl true 25 10 15 (cOp K x))
    | _, _ => no
  | some (.interface _) => match op, y with
    | .eql, .const .nilIface => .op (opNl false 41 11 11 (cOp K x))
    | .neq, .const .nilIface => .op (opNl true 41 11 11 (cOp K x))
    | _, _ => no
  | some (.map _ _) => match op, y with
    | .eql, .const (.map none) => .op (opNl false 9 8 8 (cOp K x))
    | .neq, .const (.map none) => .op (opNl true 9 8 8 (cOp K x))
    | _, _ => no
  | some (.struct fs) => cSe P K op t fs x y
  | _ => no

def isU8 (P : Program) (el : TypeId) : Bool := match P.underlying el with
  | some (.int .u8) => true
  | _ => false
noncomputable def cConv (P : Program) (K : Kon) (s d : TypeId) (x : Operand) : CO :=
  match P.underlying s, P.underlying d with
  | some _, some (.int k) => .op (opConv k (cOp K x))
  | some .string, some .string => .op fun st => sel (Nat.beq (Nat.mod (rd st.T (cOp K x)) 16) 3) (.ok (rd st.T (cOp K x)) st) .no
  | some .string, some (.slice el) => if isU8 P el = true then .op (opS2B (cOp K x)) else no
  | some (.slice el), some .string => if isU8 P el = true then .op (opB2S (cOp K x)) else no
  | some (.slice el), some (.slice _) => if isU8 P el = true ∧ s = d then .op (opMrk (cOp K x)) else no
  | _, _ => no

/-- A type's cells: how many, its zero's, is it a row. -/
structure Ty where
  size : Nat
  z : List Value
  agg : Bool
  bytes : Nat
def tyOf (P : Program) (t : TypeId) : Option Ty :=
  match P.info? t, P.underlying t with
  | some i, some d => match i.zero with
    | some z => some ⟨i.size, z.cells.toList, aggB d, i.bytes⟩
    | none => none
  | _, _ => none

noncomputable def cCall (P : Program) (K : Kon) (b : Builtin) (ts : Array TypeId) (args : List Operand) : CO :=
  match b, args with
  | .len, [x] => match ts.toList with
    | [t] => match P.underlying t with
      | some .string => .op (opLnS (cOp K x))
      | some (.slice _) => .op (opLn (cOp K x))
      | some (.array n _) => if n < 16777216 then .op (opLnC n) else no
      | _ => no
    | _ => no
  | .append, [s, x] => match ts.toList with
    | [t, u] => match P.underlying t, P.underlying u with
      | some (.slice el), some d => match P.info? el with
        | some q => match q.zero with
          | some z => if (match d with | .string => true | .slice _ => true | _ => false) = true ∧ z.cells.size = q.size ∧ cells0B K z.cells.toList = true ∧ 0 < q.size ∧ q.size < 256 ∧ q.bytes ≤ 1048576 then .op (opApp q.size (cOp K s) (cOp K x)) else no
          | none => no
        | none => no
      | _, _ => no
    | _ => no
  | .copy, [d, x] => match ts.toList with
    | [t, u] => match P.underlying t, P.underlying u with
      | some (.slice el), some (.slice _) => match P.info? el with
        | some q => if 0 < q.size then .op (opCpy q.size (cOp K d) (cOp K x)) else no
        | none => no
      | _, _ => no
    | _ => no
  | .max, [x, y] => .op (opMx true (cOp K x) (cOp K y))
  | .min, [x, y] => .op (opMx false (cOp K x) (cOp K y))
  | _, _ => no

noncomputable def cBuild (P : Program) (K : Kon) (t : TypeId) (parts : Array (Nat × Operand)) : CO :=
  match P.info? t with
  | some i => match i.zero with
    | some z => if cells0B K z.cells.toList = true ∧ z.cells.size < 16777216 then
        (match P.underlying t with
        | some (.struct fs) => if (fs.toList.all fun f => (P.info? f.type).isSome) = true then (match cPrts K (plS P fs) z.cells.size parts.toList with
            | some ps => .op (opBd z.cells.size (cells0 K z.cells.toList) ps)
            | none => no) else no
        | some (.array _ el) => match P.info? el, P.underlying el with
          | some q, some d => match cPrts K (fun i => some (i * q.size, q.size, aggB d)) z.cells.size parts.toList with
            | some ps => .op (opBd z.cells.size (cells0 K z.cells.toList) ps)
            | none => no
          | _, _ => no
        | _ => no) else no
    | none => no
  | none => no

def zeros (z : Value) (n : Nat) : Array Value := (Array.range n).map (fun i => z.cells[i % z.cells.size]!)
noncomputable def cBuildS (P : Program) (K : Kon) (t : TypeId) (len : Nat) (parts : Array (Nat × Operand)) : CO :=
  match P.underlying t with
  | some (.slice el) => match P.info? el, P.underlying el with
    | some q, some d => match q.zero with
      | some z => if len = 0 ∧ parts.size = 0 then .op opBs0 else
        if cells0B K (zeros z (len * q.size)).toList = true ∧ len * q.size < 16777216 ∧ len * q.size ≠ 0 ∧ len < 16777216 ∧ q.size < 256 then (match cPrts K (fun i => some (i * q.size, q.size, aggB d)) (len * q.size) parts.toList with
          | some ps => .op (opBs len q.size (cells0 K (zeros z (len * q.size)).toList) ps)
          | none => no) else no
      | none => no
    | _, _ => no
  | _ => no

noncomputable def cSlice (P : Program) (K : Kon) (t : TypeId) (x : Operand) (lo hi mx : Option Operand) : CO :=
  match P.underlying t, mx with
  | some (.slice el), none => match P.info? el with
    | some i => .op (opSlc i.size (cOp K x) (lo.map (cOp K)) (hi.map (cOp K)))
    | none => no
  | some (.slice el), some m => match P.info? el, hi with
    | some _, some h => .op (opSl0 (cOp K x) (lo.map (cOp K)) (some (cOp K h)) (some (cOp K m)))
    | _, _ => no
  | some (.array n el), none => match P.info? el with
    | some i => if n < 16777216 ∧ i.size < 256 then .op (opSlP n i.size (cOp K x) (lo.map (cOp K)) (hi.map (cOp K))) else no
    | none => no
  | some .string, none => .op (opSlS (cOp K x) (lo.map (cOp K)) (hi.map (cOp K)))
  | _, _ => no

noncomputable def cIndex (P : Program) (K : Kon) (t : TypeId) (x y : Operand) : CO :=
  match P.underlying t with
  | some .string => .op (opIxS (cOp K x) (cOp K y))
  | some (.array n el) => match P.info? el, P.underlying el with
    | some i, some d => if aggB d = false then .op (opIc n i.size (cOp K x) (cOp K y)) else if i.size < 16777216 then .op (opIa n i.size (cOp K x) (cOp K y)) else no
    | _, _ => no
  | _ => no

noncomputable def cField (P : Program) (K : Kon) (t : TypeId) (x : Operand) (j : Nat) : CO :=
  match P.underlying t with
  | some (.struct fs) => match fs[j]? with
    | some f => match P.info? f.type, P.underlying f.type with
      | some i, some d => if aggB d = false then .op (opFc f.offset (cOp K x)) else if i.size < 16777216 then .op (opFa f.offset i.size (cOp K x)) else no
      | _, _ => no
    | none => no
  | _ => no

/-- A map's missing value, as it must be. -/
def zOk (nv : Nat) (z : Value) : Bool := if nv = 0 then z.oneCell' else match z with
  | .agg vs => vs.size == nv
  | _ => false
def ktOf : TypeDesc → Nat
  | .string => 3
  | .int _ => 2
  | _ => 0
noncomputable def cMap (P : Program) (t : TypeId) (k : Nat → Nat → CO) : CO :=
  match P.underlying t with
  | some (.map kt el) => match P.underlying kt, P.info? el, P.underlying el with
    | some kd, some i, some d => if ktOf kd = 0 then no else if aggB d = false then k (ktOf kd) 0 else if 0 < i.size ∧ i.size < 256 then k (ktOf kd) i.size else no
    | _, _, _ => no
  | _ => no

/-- An operation that calls no function. -/
noncomputable def cOper (P : Program) (K : Kon) (o : Oper) : CO :=
  match o.op with
  | .move x => .op (opMove (cOp K x))
  | .assign x => .op (opMove (cOp K x))
  | .pick c x y => .op (opPick (cOp K c) (cOp K x) (cOp K y))
  | .alloc t => match P.info? t with
    | some i => match i.zero with
      | some z => if cells0B K z.cells.toList = true ∧ z.cells.size < 16777216 then .op (opAl z.cells.size (cells0 K z.cells.toList)) else no
      | none => no
    | none => no
  | .box t x => match P.underlying t with
    | some d => if aggB d = true then .op (opBxA (cOp K x)) else .op (opBx (cOp K x))
    | none => no
  | .build t parts => cBuild P K t parts
  | .buildSlice t len parts => cBuildS P K t len parts
  | .load t x => match P.underlying t, P.info? t with
    | some d, some i => if aggB d = false then .op (opLd (cOp K x)) else if i.size < 16777216 then .op (opLdA i.size (cOp K x)) else no
    | _, _ => no
  | .store t x y => match P.underlying t, P.info? t with
    | some d, some i => if aggB d = false ∧ i.size = 1 then .op (opSt (cOp K x) (cOp K y)) else if 0 < i.size then .op (opStA i.size (cOp K x) (cOp K y)) else no
    | _, _ => no
  | .nilCheck x => .op (opNil (cOp K x))
  | .binOp op t x y _ => cBin P K op t x y
  | .unOp .not _ x => .op (opNot (cOp K x))
  | .unOp .neg t x => match P.underlying t with
    | some (.int k) => .op (opNeg k (2 + 16 * kc k) (cOp K x))
    | _ => no
  | .convert s d x => cConv P K s d x
  | .makeInterface t x => match P.underlying t with
    | some (.interface _) => no
    | some _ => if t < 1048576 then .op (opIf t (cOp K x)) else no
    | none => no
  | .makeFunc (.func f) first captured => if f < 65536 ∧ first.size < 256 ∧ captured.size < 256 then .op (opFn f first.size captured.size (first.toList.map (cOp K) ++ captured.toList.map (cOp K))) else no
  | .makeMap t none => cMap P t fun _ nv => .op (opMm nv)
  | .insert t m k x => cMap P t fun kt nv => .op (opIns kt nv (cOp K m) (cOp K k) (cOp K x))
  | .mapUpdate t m k x => cMap P t fun kt nv => .op (opIns kt nv (cOp K m) (cOp K k) (cOp K x))
  | .lookup t m k true => match P.underlying t with
    | some (.map _ el) => match P.info? el with
      | some i => match i.zero with
        | some z => if cells0B K z.cells.toList = true then cMap P t fun kt nv => if zOk nv z = true then .op (opLk kt nv (cells0 K z.cells.toList) (cOp K m) (cOp K k)) else no else no
        | none => no
      | none => no
    | _ => no
  | .lookup t m k false => match P.underlying t with
    | some (.map _ el) => match P.info? el with
      | some i => match i.zero with
        | some z => if cells0B K z.cells.toList = true then cMap P t fun kt nv => if zOk nv z = true then .op (opLk1 kt nv (cells0 K z.cells.toList) (cOp K m) (cOp K k)) else no else no
        | none => no
      | none => no
    | _ => no
  | .makeSlice t l c => match P.underlying t with
    | some (.slice el) => match P.info? el with
      | some q => match q.zero with
        | some z => if q.bytes ≤ 16777216 ∧ 0 < q.size ∧ q.size < 256 ∧ z.cells.size = q.size ∧ cells0B K z.cells.toList = true then .op (opMk q.size (cells0 K z.cells.toList) (cOp K l) (cOp K c)) else no
        | none => no
      | none => no
    | _ => no
  | .slice t x lo hi mx => cSlice P K t x lo hi mx
  | .fieldAddr t x j => match P.underlying t with
    | some (.struct fs) => match fs[j]? with
      | some f => match P.info? f.type with
        | some i => if i.size ≠ 0 then .op (opFld f.offset (cOp K x)) else no
        | none => no
      | none => no
    | _ => no
  | .field t x j => cField P K t x j
  | .indexAddr t x y => match P.underlying t with
    | some (.slice el) => match P.info? el with
      | some i => .op (opIxA i.size (cOp K x) (cOp K y))
      | none => no
    | some (.array n el) => match P.info? el with
      | some i => .op (opIxP n i.size (cOp K x) (cOp K y))
      | none => no
    | _ => no
  | .index t x y => cIndex P K t x y
  | .extract x j => .op (opEx j (cOp K x))
  | .call { callee := .builtin b, args, argTypes } => cCall P K b argTypes args.toList
  | _ => no

noncomputable def cO (P : Program) (K : Kon) (o : Oper) : CO :=
  match o.op with
  | .call { callee := .value (.func f), args, .. } => .call f (args.toList.map (cOp K))
  | .call { callee := .value x, args, .. } => .dyn (cOp K x) (args.toList.map (cOp K))
  | .defer { callee := .value x, args, .. } => .dfr (cOp K x) (args.toList.map (cOp K))
  | _ => cOper P K o

/-! ### the evaluator -/
noncomputable def keep (w : Nat) : Bool := sel (Nat.beq (Nat.mod w 16) 12) true (Nat.beq (Nat.mod w 16) 13)
structure R3 where
  R : Nat
  n : Nat
  c : Nat
/-- The rows of a tuple's first so many, put behind: the rows, how many, and the tuple's words. -/
noncomputable def cpT (R' s R nR : Nat) : Nat → Option R3 := fun k => Nat.rec (some ⟨R, nR, 0⟩) (fun k ih => Option.rec none (fun q => R3.rec (fun R1 n1 c => fc (gt R' (Nat.add s k)) fun w =>
  sel (keep w) (sel (Nat.beq (Nat.mod w 16) 12) (sel (Nat.blt n1 4294967296) (some ⟨ad R1 n1 (ch R' (sa w) (ln w)), Nat.add n1 (ln w), ad c k (eAgg n1 (ln w))⟩) none) none) (some ⟨R1, n1, ad c k w⟩)) q) ih) k
/-- What is told is told in the caller's rows. -/
noncomputable def finA (w : Nat) (st s : St) : RS := St.rec (fun T D R nR _ _ _ _ => St.rec (fun _ _ R' _ M nM S nS => sel (Nat.blt nR 4294967296)
  (.ok (eAgg nR (ln w)) ⟨T, D, ad R nR (ch R' (sa w) (ln w)), Nat.add nR (ln w), M, nM, S, nS⟩) .no) s) st
noncomputable def finT (w : Nat) (st s : St) : RS := St.rec (fun T D R nR _ _ _ _ => St.rec (fun _ _ R' _ M nM S nS => Option.rec .no (fun q => R3.rec (fun R1 n1 c => sel (Nat.blt n1 4294967296)
  (.ok (eTup n1 (ln w)) ⟨T, D, ad R1 n1 c, Nat.add n1 (ln w), M, nM, S, nS⟩) .no) q) (cpT R' (sa w) R nR (ln w))) s) st
noncomputable def finK (w : Nat) (st s : St) : RS := sel (Nat.beq (Nat.mod w 16) 12) (finA w st s) (finT w st s)
noncomputable def finD (w : Nat) (st s : St) : RS := St.rec (fun T D R nR _ _ _ _ => St.rec (fun _ _ _ _ M nM S nS => .ok w ⟨T, D, R, nR, M, nM, S, nS⟩) s) st
/-- A truth or a number: no word of it lies in the memory. -/
noncomputable def small (w : Nat) : Bool := sel (Nat.beq (Nat.mod w 16) 1) true (Nat.beq (Nat.mod w 16) 2)
/-- Memory as it was ahead of the call, if nothing older changed. -/
noncomputable def finG (w : Nat) (st s : St) : RS := St.rec (fun T D R nR M nM S nS => St.rec (fun _ _ _ _ M' nM' S' nS' => sel (Nat.beq nM nM') (.ok w ⟨T, D, R, nR, M', nM', S', nS'⟩)
  (sel (Nat.beq (Nat.land M' (Nat.sub (Nat.pow 2 (Nat.mul 128 nM)) 1)) M) (.ok w ⟨T, D, R, nR, M, nM, S, nS⟩) (.ok w ⟨T, D, R, nR, M', nM', S', nS'⟩))) s) st
/-- Back in the caller's frame. -/
noncomputable def fin (st : St) (r : RS) : RS := RS.rec .no (fun w s => fc w fun w => sel (keep w) (finK w st s) (sel (small w) (finG w st s) (finD w st s))) r

/-- (In the place of what is deferred: how many arguments there are. Hooks ask for that.) -/
noncomputable def calls (call : Nat → St → RS) (f n T : Nat) (st : St) : RS := fc T fun T => fin st (St.rec (fun _ _ R nR M nM S nS => call f ⟨T, [(n, [])], R, nR, M, nM, S, nS⟩) st)

/-- A call of a function value, with words. -/
noncomputable def dyn (call : Nat → St → RS) (w : Nat) (ws : List Nat) (st : St) : RS :=
  sel (Nat.beq (Nat.mod w 16) 15) (calls call (Nat.div w 16) ws.length (rowN ws) st)
    (sel (Nat.beq (Nat.mod w 16) 10) (calls call (Nat.mod (Nat.div w 16) 65536) (Nat.add (Nat.add (Nat.mod (Nat.div w 1048576) 256) ws.length) (Nat.mod (Nat.div w 268435456) 256))
      (ad (ad (ch st.M (Nat.div w 68719476736) (Nat.mod (Nat.div w 1048576) 256)) (Nat.mod (Nat.div w 1048576) 256) (rowN ws)) (Nat.add (Nat.mod (Nat.div w 1048576) 256) ws.length)
        (ch st.M (Nat.add (Nat.div w 68719476736) (Nat.mod (Nat.div w 1048576) 256)) (Nat.mod (Nat.div w 268435456) 256))) st) .no)

/-- A word of a function that is known. -/
noncomputable def isFn (w : Nat) : Bool := sel (Nat.beq (Nat.mod w 16) 10) true (Nat.beq (Nat.mod w 16) 15)
noncomputable def rOp (st : St) (f : St → RS) : RS := f st
noncomputable def rCall (call : Nat → St → RS) (st : St) (f : Nat) (l : List Opd) : RS := calls call f l.length (rowN (rds st.T l)) st
noncomputable def rDyn (call : Nat → St → RS) (st : St) (x : Opd) (l : List Opd) : RS := dyn call (rd st.T x) (rds st.T l) st
noncomputable def rDfr (st : St) (x : Opd) (l : List Opd) : RS := sel (isFn (rd st.T x)) (.ok 14 (setD ((rd st.T x, rds st.T l) :: st.D) st)) .no
noncomputable def runCO (call : Nat → St → RS) (co : CO) (st : St) : RS := CO.rec (rOp st) (rCall call st) (rDyn call st) (rDfr st) co

/-- Is a guard's wish met? -/
noncomputable def gd (T g : Nat) : Option Bool :=
  sel (Nat.beq (gt T (Nat.div g 2)) 17) (some (Nat.beq (Nat.mod g 2) 1)) (sel (Nat.beq (gt T (Nat.div g 2)) 1) (some (Nat.beq (Nat.mod g 2) 0)) (sel (Nat.beq (gt T (Nat.div g 2)) 14) (some false) none))

noncomputable def up1 (T i w : Nat) : Nat := Nat.xor T (Nat.shiftLeft (Nat.xor (gt T i) w) (Nat.mul 128 i))
noncomputable def put1 (i w : Nat) (st : St) (k : St → RS) : RS := St.rec (fun T D R nR M nM S nS => fc (up1 T i w) fun T => k ⟨T, D, R, nR, M, nM, S, nS⟩) st
noncomputable def put (d : Option Nat) (w : Nat) (st : St) (k : St → RS) : RS := Option.rec (k st) (fun i => put1 i w st k) d

noncomputable def sRun (call : Nat → St → RS) (d : Option Nat) (co : CO) (st : St) (k : St → RS) : RS := RS.rec .no (fun w st => put d w st k) (runCO call co st)
noncomputable def sGrd (call : Nat → St → RS) (g : Nat) (d : Option Nat) (co : CO) (st : St) (k : St → RS) : RS := Option.rec .no (fun b => sel b (sRun call d co st k) (put d 14 st k)) (gd st.T g)
/-- Is it the same, told anew: the same word, the same bytes, the same row? -/
noncomputable def sameW (s : St) (x w : Nat) : Bool := sel (Nat.beq x w) true (sel (Nat.beq (Nat.mod w 16) 3) (sel (Nat.beq (Nat.mod x 16) 3) (strEq s.S x w) false)
  (sel (Nat.beq (Nat.mod w 16) 12) (sel (Nat.beq (Nat.mod x 16) 12) (sel (Nat.beq (ln x) (ln w)) (Nat.beq (ch s.R (sa x) (ln x)) (ch s.R (sa w) (ln w))) false) false) false))
noncomputable def sChk1 (call : Nat → St → RS) (d : Nat) (co : CO) (st : St) (k : St → RS) : RS := RS.rec .no (fun x s => sel (sameW s x (gt st.T d)) (k st) .no) (runCO call co st)
noncomputable def sChk (call : Nat → St → RS) (g : Option Nat) (d : Nat) (co : CO) (st : St) (k : St → RS) : RS :=
  Option.rec (sChk1 call d co st k) (fun g => Option.rec .no (fun b => sel b (sChk1 call d co st k) (sel (Nat.beq 14 (gt st.T d)) (k st) .no)) (gd st.T g)) g
noncomputable def sMov (d : Nat) (x : Opd) (st : St) (k : St → RS) : RS := St.rec (fun T D R nR M nM S nS => fc (up1 T d (rd T x)) fun T => k ⟨T, D, R, nR, M, nM, S, nS⟩) st
/-- Steps, as they are run: what calls functions; what comes behind. -/
abbrev Stp := (Nat → St → RS) → (St → RS) → St → RS
noncomputable def kMvS (d t : Nat) : Stp := fun _ k st => St.rec (fun T D R nR M nM S nS => k ⟨up1 T d (gt T t), D, R, nR, M, nM, S, nS⟩) st
noncomputable def kMvC (d w : Nat) : Stp := fun _ k st => St.rec (fun T D R nR M nM S nS => k ⟨up1 T d w, D, R, nR, M, nM, S, nS⟩) st
noncomputable def kOp0 (f : St → RS) : Stp := fun _ k st => RS.rec .no (fun _ st => k st) (f st)
noncomputable def pt1 (d : Nat) (k : St → RS) (w : Nat) (st : St) : RS := St.rec (fun T D R nR M nM S nS => k ⟨up1 T d w, D, R, nR, M, nM, S, nS⟩) st
noncomputable def kOp (d : Nat) (f : St → RS) : Stp := fun _ k st => RS.rec .no (pt1 d k) (f st)
noncomputable def kRun (d : Option Nat) (co : CO) : Stp := fun call k st => sRun call d co st k
noncomputable def kGrd (g : Nat) (d : Option Nat) (co : CO) : Stp := fun call k st => sGrd call g d co st k
noncomputable def kChk (g : Option Nat) (d : Nat) (co : CO) : Stp := fun call k st => sChk call g d co st k
noncomputable def runS (call : Nat → St → RS) (l : List Stp) : St → RS := List.rec (fun st => .ok 0 st) (fun s _ ih st => s call ih st) l

/-- A guard: twice its slot, and 1 more, if that is wished. -/
def cGd (ops : Array Oper) (g : Nat × Bool) : Option Nat :=
  match (ops[g.1]?).bind (·.dst) with
  | some s => some (2 * s + (if g.2 then 1 else 0))
  | none => none

noncomputable def cRun (d : Option Nat) (co : CO) : Option Stp := match co, d with
  | .op f, some d => some (kOp d f)
  | .op f, none => some (kOp0 f)
  | co, d => some (kRun d co)
noncomputable def cMv (d : Nat) (x : Opd) : Option Stp := match x with
  | .s t => some (kMvS d t)
  | .c w => some (kMvC d w)
noncomputable def cStp (P : Program) (K : Kon) (ops : Array Oper) (o : Oper) : Option Stp :=
  match o.guard with
  | none => match o.op, o.dst with
    | .move x, some d => cMv d (cOp K x)
    | .assign x, some d => cMv d (cOp K x)
    | _, d => cRun d (cO P K o)
  | some g => match cGd ops g with
    | some g => some (kGrd g o.dst (cO P K o))
    | none => none
noncomputable def cReg (P : Program) (K : Kon) (ops : Array Oper) : List Oper → Option (List Stp)
  | [] => some []
  | o :: l => match cStp P K ops o, cReg P K ops l with
    | some s, some r => some (s :: r)
    | _, _ => none

/-! ### regions that draw their order: the canonical order -/
/-- What counts of an operation: does it float, what it must wait for, its slot, the slots it looks at. -/
structure OI where
  q : Bool
  pre : List Nat
  dst : Option Nat
  lk : List Nat
def isAsg : Op → Bool
  | .assign _ => true
  | _ => false
def oiOf (P : Program) (ops : Array Oper) (o : Oper) : OI := ⟨quietB P o.op && !isAsg o.op && o.dst.isSome, (o.after.toList.filter (Region.binds .any)).map (·.on), o.dst, o.looksAt ops⟩
def oi0 : OI := ⟨false, [], none, []⟩
def oiAt (inf : List OI) (i : Nat) : OI := inf.getD i oi0
/-- A chain operation; what then floats; what is looked at once more; what is listed for sure. -/
structure Stage where
  e : Nat
  fl : List Nat
  ck : List Nat
  anc : List Nat
inductive Itm where
  | run (i : Nat)
  | chk (i : Nat)
def itms : List Stage → List Itm
  | [] => []
  | s :: r => .run s.e :: (s.fl.map .run ++ (s.ck.map .chk ++ itms r))
def subB (l D : List Nat) : Bool := l.all fun j => D.contains j
/-- All that may float now, in the text's order. -/
def floats : List OI → Nat → List Nat → List Nat → List Nat × List Nat
  | [], _, D, out => (D, out.reverse)
  | x :: l, i, D, out => if x.q && !D.contains i && subB x.pre D then floats l (i + 1) (i :: D) (i :: out) else floats l (i + 1) D out
def nextE (sk : Option Nat) : List OI → Nat → List Nat → Option Nat
  | [], _, _ => none
  | x :: l, i, D => if !D.contains i && !decide (sk = some i) && subB x.pre D then some i else nextE sk l (i + 1) D
/-- What must have come before, the last first. -/
def ancs (inf : List OI) (e : Nat) : Nat → List Nat → List Nat
  | 0, A => A.reverse
  | i + 1, A => if (oiAt inf e).pre.contains i || A.any (fun j => (oiAt inf j).pre.contains i) then ancs inf e i (i :: A) else ancs inf e i A
/-- (ac: the operation that may come early; it is put as late as may be.) -/
def mkPlan (inf : List OI) (ac : Option Nat) : Nat → List Nat → List Nat → List Stage
  | 0, _, _ => []
  | n + 1, D, A => match (nextE ac inf 0 D).or (nextE none inf 0 D) with
    | none => []
    | some e => match floats inf 0 (e :: D) [] with
      | (D', fl) =>
        let an := ancs inf e inf.length []
        let A' := an ++ A
        ⟨e, fl, D'.filter (fun i => (oiAt inf i).q && !A'.contains i), an⟩ :: mkPlan inf ac n D' A'
structure Plan where
  ac : Option Nat
  fl : List Nat
  ck : List Nat
  st : List Stage
def planAc (inf : List OI) (ac : Option Nat) : Plan := match floats inf 0 [] [] with
  | (D, fl) => ⟨ac, fl, fl, mkPlan inf ac inf.length D []⟩
def planI (p : Plan) : List Itm := p.fl.map .run ++ (p.ck.map .chk ++ itms p.st)

def ltO (n : Nat) : Option Nat → Bool
  | some d => Nat.blt d n
  | none => true
def ancB (inf : List OI) (e : Nat) : List Nat → List Nat → Bool
  | _, [] => true
  | seen, j :: l => ((oiAt inf e).pre.contains j || seen.any fun i => (oiAt inf i).pre.contains j) && ancB inf e (j :: seen) l
def stB (inf : List OI) (ac : Option Nat) (N n : Nat) : List Nat → List Nat → List Stage → Bool
  | D, _, [] => (List.range N).all fun i => D.contains i
  | D, A, s :: r => !D.contains s.e && Nat.blt s.e N && ((List.range N).all fun i => D.contains i || Nat.beq i s.e || decide (ac = some i) || (oiAt inf i).pre.any fun j => !D.contains j && (Nat.beq j s.e || !decide (ac = some j))) && ltO n (oiAt inf s.e).dst && ancB inf s.e [] s.anc
    && (s.fl.all fun i => Nat.blt i N && (oiAt inf i).q && !D.contains i && !Nat.beq i s.e && !decide (ac = some i)) && (s.ck.all fun i => Nat.blt i N)
    && ((s.fl ++ s.e :: D).all fun i => Nat.beq i s.e || !(oiAt inf i).q || s.ck.contains i || (s.anc ++ A).contains i)
    && subB (oiAt inf s.e).pre D && (s.fl.all fun i => subB (oiAt inf i).pre (s.fl ++ s.e :: D)) && stB inf ac N n (s.fl ++ s.e :: D) (s.anc ++ A) r
def glB (inf : List OI) (ac : Option Nat) (N n : Nat) : Bool :=
  (List.range N).all fun i => ((List.range N).all fun j => (!(oiAt inf j).q && !decide (ac = some j)) || ((Nat.beq i j || !decide ((oiAt inf i).dst = (oiAt inf j).dst)) && ((oiAt inf i).lk.all fun t => !decide ((oiAt inf j).dst = some t) || (oiAt inf i).pre.contains j)))
    && ltO n (oiAt inf i).dst && (oiAt inf i).pre.all fun j => Nat.blt j i
def planB (inf : List OI) (N n : Nat) (p : Plan) : Bool :=
  glB inf p.ac N n && (p.fl.all fun i => Nat.blt i N && (oiAt inf i).q) && (p.ck.all fun i => Nat.blt i N) && (p.fl.all fun i => p.ck.contains i) && (p.fl.all fun i => subB (oiAt inf i).pre p.fl) && stB inf p.ac N n p.fl [] p.st
/-- One that may come early: a new variable, or a row of one constant. -/
def acC (o : Oper) : Bool := o.guard.isNone && o.dst.isSome && match o.op with
  | .alloc _ => true
  | .buildSlice _ 1 ⟨[(0, .const _)]⟩ => true
  | _ => false
noncomputable def acO (P : Program) (K : Kon) (o : Oper) : Bool := acC o && match o.op with
  | .alloc t => (P.info? t).any fun i => i.zero.any fun z => cells0B K z.cells.toList && decide (z.cells.size < 16777216)
  | .buildSlice t 1 ⟨[(0, .const v)]⟩ => match P.underlying t with
    | some (.slice el) => match P.info? el, P.underlying el with
      | some q, some d => q.zero.isSome && Nat.beq q.size 1 && !aggB d && cellB (cV K v)
      | _, _ => false
    | _ => false
  | _ => false
noncomputable def acB (P : Program) (K : Kon) (ops : Array Oper) : Option Nat → Bool
  | none => true
  | some i => match ops[i]? with
    | some o => acO P K o
    | none => false
def acs : List Oper → Nat → List Nat
  | [], _ => []
  | o :: l, i => if acC o = true then i :: acs l (i + 1) else acs l (i + 1)
def planIn (inf : List OI) (N n : Nat) : List Nat → Plan
  | [] => ⟨none, [], [], []⟩
  | i :: l => if planB inf N n (planAc inf (some i)) = true then planAc inf (some i) else planIn inf N n l
def planOf (inf : List OI) (N n : Nat) (l : List Nat) : Plan := if planB inf N n (planAc inf none) = true then planAc inf none else planIn inf N n l

noncomputable def cItm (P : Program) (K : Kon) (ops : Array Oper) : Itm → Option Stp
  | .run i => match ops[i]? with
    | some o => cStp P K ops o
    | none => none
  | .chk i => match ops[i]? with
    | some o => match o.dst, o.guard with
      | some d, none => some (kChk none d (cO P K o))
      | some d, some g => match cGd ops g with
        | some g => some (kChk (some g) d (cO P K o))
        | none => none
      | none, _ => none
    | none => none
noncomputable def cItms (P : Program) (K : Kon) (ops : Array Oper) : List Itm → Option (List Stp)
  | [] => some []
  | x :: l => match cItm P K ops x, cItms P K ops l with
    | some s, some r => some (s :: r)
    | _, _ => none
inductive MC where
  | skip
  | bad
  | reg (l : List Stp)
  | seq (a b : MC)
  | cond (c : Opd) (a b : MC)
  | block (id : Nat) (b : MC)
  | loop (b : MC)
  | exit (id : Nat)
  | ret

/-- A region that draws its order, by a plan. -/
noncomputable def cDrawP (P : Program) (K : Kon) (ops : Array Oper) (p : Plan) : MC := match cItms P K ops (planI p) with
  | some l => .reg l
  | none => .bad
noncomputable def chkP (P : Program) (K : Kon) (n : Nat) (ops : Array Oper) (p : Plan) : Bool := acB P K ops p.ac && planB (ops.toList.map (oiOf P ops)) ops.size n p
noncomputable def cDraw (P : Program) (K : Kon) (n : Nat) (ops : Array Oper) : MC :=
  let p := planOf (ops.toList.map (oiOf P ops)) ops.size n (acs ops.toList 0)
  if chkP P K n ops p = true then cDrawP P K ops p else .bad

/-- Are the slots within the frame? -/
def dstB (n : Nat) (ops : Array Oper) : Bool := ops.toList.all fun o => ltO n o.dst
/-- (X: plans that are known to be right.) -/
noncomputable def cCode (P : Program) (K : Kon) (X : Nat → Option Plan) (n : Nat) : Code → MC
  | .skip => .skip
  | .region id ops d => if d = true then (match X id with
      | some p => cDrawP P K ops p
      | none => cDraw P K n ops) else if dstB n ops = true then (match cReg P K ops ops.toList with
      | some l => .reg l
      | none => .bad) else .bad
  | .seq a b => .seq (cCode P K X n a) (cCode P K X n b)
  | .cond c a b => .cond (cOp K c) (cCode P K X n a) (cCode P K X n b)
  | .block id b => .block id (cCode P K X n b)
  | .loop b => .loop (cCode P K X n b)
  | .exit id => .exit id
  | .ret => .ret
  | _ => .bad
/-- Are the plans right? -/
noncomputable def okX (P : Program) (K : Kon) (X : Nat → Option Plan) (n : Nat) : Code → Bool
  | .region id ops d => if d = true then (match X id with
      | some p => chkP P K n ops p
      | none => true) else true
  | .seq a b => okX P K X n a && okX P K X n b
  | .cond _ a b => okX P K X n a && okX P K X n b
  | .block _ b => okX P K X n b
  | .loop b => okX P K X n b
  | _ => true

/-! ### bodies -/
/-- A body: how it is left (0: at its end, 1: a return, n + 2: exit n). -/
noncomputable def eSeq (ih : MC → St → RS) (a b : MC) (st : St) : RS := RS.rec .no (fun x st => sel (Nat.beq x 0) (ih b st) (.ok x st)) (ih a st)
noncomputable def eCond (ih : MC → St → RS) (c : Opd) (a b : MC) (st : St) : RS := sel (Nat.beq (rd st.T c) 17) (ih a st) (sel (Nat.beq (rd st.T c) 1) (ih b st) .no)
noncomputable def eBlk (ih : MC → St → RS) (id : Nat) (b : MC) (st : St) : RS := RS.rec .no (fun x st => sel (Nat.beq x (Nat.add id 2)) (.ok 0 st) (.ok x st)) (ih b st)
noncomputable def eLoop (ih : MC → St → RS) (b : MC) (st : St) : RS := RS.rec .no (fun x st => sel (Nat.beq x 0) (ih (.loop b) st) (.ok x st)) (ih b st)
noncomputable def eReg (call : Nat → St → RS) (l : List Stp) (st : St) : RS := RS.rec .no (fun _ st => .ok 0 st) (runS call l st)
noncomputable def evalM (call : Nat → St → RS) : Nat → MC → St → RS := fun n => Nat.rec (fun _ _ => .no) (fun _ ih m st =>
  MC.rec (.ok 0 st) .no (fun l => eReg call l st) (fun a b _ _ => eSeq ih a b st) (fun c a b _ _ => eCond ih c a b st) (fun id b _ => eBlk ih id b st) (fun b _ => eLoop ih b st)
    (fun id => .ok (Nat.add id 2) st) (.ok 1 st) m) n

/-- A result: a slot; or a variable behind one: a cell, or a row of so many. -/
inductive RV where
  | tmp (t : Nat)
  | cell (x : Opd)
  | row (n : Nat) (x : Opd)
noncomputable def resV (r : RV) (st : St) : RS := RV.rec (fun t => .ok (gt st.T t) st) (fun x => opLd x st) (fun n x => opLdA n x st) r
noncomputable def resL (l : List RV) : St → List Nat → RS := List.rec (fun st acc => sel (Nat.blt st.nR 4294967296) (sel (Nat.blt acc.length 16777216) (fc (ad st.R st.nR (rowN acc.reverse)) fun R => .ok (eTup st.nR acc.length) (setR R (Nat.add st.nR acc.length) st)) .no) .no)
  (fun r _ ih st acc => RS.rec .no (fun w st => fc w fun w => ih st (w :: acc)) (resV r st)) l
noncomputable def res (l : List RV) (st : St) : RS := List.rec (.ok 14 st) (fun r q _ => List.rec (resV r st) (fun _ _ _ => resL l st []) q) l

def cRes (P : Program) (K : Kon) : List ResultVar → Option (List RV)
  | [] => some []
  | .tmp t :: l => (cRes P K l).map (.tmp t :: ·)
  | .cell a t :: l => match P.underlying t, P.info? t, cRes P K l with
    | some d, some i, some r => if aggB d = false then some (.cell (.s a) :: r) else if i.size < 16777216 then some (.row i.size (.s a) :: r) else none
    | _, _, _ => none

structure Fun where
  code : MC
  res : List RV
noncomputable def cFun (P : Program) (K : Kon) (X : Nat → Nat → Option Plan) (f : Nat) : Option Fun :=
  match P.funcs[f]? with
  | some fn => match fn.body, cRes P K fn.results.toList with
    | some c, some r => if fn.name == "runtime.NumGoroutine" then none else some ⟨cCode P K (X f) fn.ntmps c, r⟩
    | _, _ => none
  | none => none

/-- The deferred calls, the last one first. -/
noncomputable def runD (call : Nat → St → RS) (dk : Nat → Bool) : List (Nat × List Nat) → St → RS := fun l => List.rec (fun st => .ok 0 st) (fun d _ ih st =>
  Prod.rec (fun w ws => sel (dk w) (sel (Nat.beq ws.length 0) (ih st) .no) (RS.rec .no (fun _ st => ih st) (dyn call w ws st))) d) l

noncomputable def noD (k : St → RS) (st : St) : RS := St.rec (fun T _ R nR M nM S nS => k ⟨T, [], R, nR, M, nM, S, nS⟩) st

/-- A function that is called when another one is left: it defers nothing. -/
noncomputable def evalD (P : Program) (K : Kon) (X : Nat → Nat → Option Plan) (call : Nat → St → RS) (fuel f : Nat) (st : St) : RS :=
  Option.rec .no (fun F => Fun.rec (fun code rs => RS.rec .no (fun x st => sel (Nat.ble x 1) (List.rec (res rs st) (fun _ _ _ => .no) st.D) .no) (noD (evalM call fuel code) st)) F) (cFun P K X f)

noncomputable def evalF (P : Program) (K : Kon) (X : Nat → Nat → Option Plan) (hk : Nat → Option (St → RS)) (dk : Nat → Bool) (fuel : Nat) : Nat → Nat → St → RS := fun n => Nat.rec (fun _ _ => .no) (fun _ ih f st =>
  Option.rec (Option.rec .no (fun F => Fun.rec (fun code rs => RS.rec .no (fun x st => sel (Nat.ble x 1) (RS.rec .no (fun _ st => res rs st) (runD (evalD P K X ih fuel) dk st.D (setD [] st))) .no)
    (noD (evalM ih fuel code) st)) F) (cFun P K X f)) (fun h => h st) (hk f)) n

end Ev
end Go.Proofs.YtgdibfnpkcdiiaaGreatDoor
