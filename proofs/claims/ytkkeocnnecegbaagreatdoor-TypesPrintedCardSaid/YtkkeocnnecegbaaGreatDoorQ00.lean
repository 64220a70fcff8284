/- Joint text: JA. By an AI agent. -/
import Derived.Lib.ParseIntBMem
import Derived.Lib.ItoaMem
set_option linter.all false
set_option maxRecDepth 100000
set_option maxHeartbeats 64000000
namespace Go.Proofs.YtkkeocnnecegbaaGreatDoor
def isLet (c:UInt8):Bool:=c == 95 || (97≤c && c≤122) || (65≤c && c≤90)
def aU (c:UInt8):Bool:=48≤c && c≤57
def dQ (c:UInt8):Bool:=c == 32 || c == 9 || c == 13 || c == 10
def oI:List (List UInt8):=[[118,97,114],[102,117,110,99],[105,102],[101,108,115,101],[102,111,114],[114,101,116,117,114,110],[112,114,105,110,116],[101,120,105,116],[114,101,97,100],[99,97,108,108]]
def gZ (l:List UInt8):Bool:=decide (l∈oI)
def mJ:List UInt8:=[40,41,123,125,91,93,44,59,61,60,43,45,124,94,42,47,37,38,33]
def jk:List (List UInt8):=[[60,61],[61,61],[33,61],[60,60],[62,62]]
def isMarkS (l:List UInt8):Bool:=decide (l∈jk) || (match l with | [c]=>decide (c∈mJ) | _=>false)
def numS (l:List UInt8):Option Int :=
 match Lib.parseUintM 2147483647 0 l with
 | .ok v=>if l≠[48]∧l.head? = some 48 then none else some (v:Int)
 | _=>none
structure Tok where
 kind:Nat
 text:List UInt8
 n:Int
 at':Nat
def aQ (p:UInt8→Bool) (r:List UInt8):Nat:=(r.takeWhile p).length
def aV (r:List UInt8):Nat:=if isMarkS (r.take 2) then min 2 r.length else if isMarkS (r.take 1) then 1 else 0
def tokAt (r:List UInt8):Except Int (Nat×Nat×Int) :=
 match r with
 | []=>.error 130
 | c :: _ =>
  if isLet c then .ok (if gZ (r.take (aQ (fun c=>isLet c || aU c) r)) then 2 else 1,aQ (fun c=>isLet c || aU c) r,0)
  else if aU c then
   match numS (r.take (aQ aU r)) with
   | some v=>.ok (3,aQ aU r,v)
   | none=>.error 131
  else if aV r=0 then .error 130 else .ok (4,aV r,0)
def lexFrom:Nat→List UInt8→Nat→List Tok→Except (Nat×Int) (List Tok)
 | 0,_,at',acc=>.ok (acc ++ [⟨5,[],0,at'⟩])
 | _+1,[],at',acc=>.ok (acc ++ [⟨5,[],0,at'⟩])
 | f+1,c :: r,at',acc =>
  if dQ c then lexFrom f r (at'+1) acc
  else match tokAt (c :: r) with
   | .error e=>.error (at',e)
   | .ok (k,n,v)=>lexFrom f ((c :: r).drop n) (at'+n) (acc ++ [⟨k,(c :: r).take n,v,at'⟩])
def fZ (l:List UInt8):Except (Nat×Int) (List Tok):=lexFrom l.length l 0 []
theorem kG (p:UInt8→Bool) (r:List UInt8):aQ p r≤r.length:=(List.takeWhile_prefix p).length_le
theorem jL {p:UInt8→Bool} {c:UInt8} {r:List UInt8} (h:p c=true):0<aQ p (c :: r):=by simp [aQ,h]
theorem lv {p:UInt8→Bool} {c:UInt8} {r:List UInt8} (h:p c=false):aQ p (c :: r)=0:=by simp [aQ,h]
theorem rE (r:List UInt8):aV r≤r.length:=by
 unfold aV
 split
 ·omega
 ·split
  ·rename_i h
   cases r with
   | nil=>simp [isMarkS,jk] at h
   | cons c r=>simp
  ·omega
theorem x9 {p:UInt8→Bool} {r:List UInt8} {k:Nat} (hk:k<r.length) (hall:∀ i (h:i<r.length),i<k→p r[i]=true) (hno:p r[k]=false):aQ p r=k:=by
 induction r generalizing k with
 | nil=>simp at hk
 | cons c r ih =>
  cases k with
  | zero=>exact lv (by simpa using hno)
  | succ k =>
   have h0:=hall 0 (by simp) (by omega)
   have:=ih (k:=k) (by simpa using hk) (fun i h hi=>hall (i+1) (by simpa using h) (by omega)) hno
   simp only [aQ] at this ⊢
   simp only [List.getElem_cons_zero] at h0
   rw [List.takeWhile_cons,if_pos h0,List.length_cons,this]
theorem pO {p:UInt8→Bool} {r:List UInt8} (hall:∀ i (h:i<r.length),p r[i]=true):aQ p r=r.length:=by
 induction r with
 | nil=>rfl
 | cons c r ih =>
  have h0:=hall 0 (by simp)
  have h1:=ih (fun i h=>hall (i+1) (by simpa using h))
  simp only [List.getElem_cons_zero] at h0
  simp only [aQ] at h1 ⊢
  rw [List.takeWhile_cons,if_pos h0,List.length_cons,h1,List.length_cons]
end Go.Proofs.YtkkeocnnecegbaaGreatDoor
namespace Go.Proofs.YtkkeocnnecegbaaGreatDoor
inductive Item where
 | mk (kind:Nat) (text:List UInt8) (n:Int) (at':Nat) (kids:List Item)
structure vY where
 kind:Nat
 text:List UInt8
 n:Int
 at':Nat
 kids:List Nat
mutual
def sizeI:Item→Nat
 | .mk _ _ _ _ ks=>1+sizeL ks
def sizeL:List Item→Nat
 | []=>0
 | x :: r=>sizeI x+sizeL r
end
def offs:Nat→List Item→List Nat
 | _,[]=>[]
 | o,x :: r=>o :: offs (o+sizeI x) r
mutual
def flat:Nat→Item→List vY
 | o,.mk k t n a ks=>⟨k,t,n,a,offs (o+1) ks⟩ :: eQ (o+1) ks
def eQ:Nat→List Item→List vY
 | _,[]=>[]
 | o,x :: r=>flat o x ++ eQ (o+sizeI x) r
end
mutual
theorem iK:∀ (x:Item) (o:Nat),(flat o x).length=sizeI x
 | .mk k t n a ks,o=>by simp only [flat,sizeI,List.length_cons,l8 ks]; omega
theorem l8:∀ (l:List Item) (o:Nat),(eQ o l).length=sizeL l
 | [],o=>by simp [eQ,sizeL]
 | x :: r,o=>by simp only [eQ,sizeL,List.length_append,iK x,l8 r]
end
theorem aL:∀ (l:List Item) (o:Nat),(offs o l).length=l.length
 | [],o=>rfl
 | x :: r,o=>by simp only [offs,List.length_cons,aL r]
theorem aW:∀ x:Item,0<sizeI x
 | .mk _ _ _ _ ks=>by simp only [sizeI]; omega
theorem iY:∀ a b:List Item,sizeL (a ++ b)=sizeL a+sizeL b
 | [],b=>by simp [sizeL]
 | x :: r,b=>by simp only [List.cons_append,sizeL,iY r b]; omega
theorem nC:∀ (a b:List Item) (o:Nat),offs o (a ++ b)=offs o a ++ offs (o+sizeL a) b
 | [],b,o=>by simp [offs,sizeL]
 | x :: r,b,o=>by simp only [List.cons_append,offs,sizeL,nC r b]; rw [Nat.add_assoc]
theorem pW:∀ (a b:List Item) (o:Nat),eQ o (a ++ b)=eQ o a ++ eQ (o+sizeL a) b
 | [],b,o=>by simp [eQ,sizeL]
 | x :: r,b,o=>by simp only [List.cons_append,eQ,sizeL,pW r b,List.append_assoc]; rw [Nat.add_assoc]
abbrev aY:=Nat×Int
def aI:aY:=(0,-1)
def nowAt:List Tok→Nat
 | t :: _=>t.at'
 | []=>0
def aj:List Tok→Nat
 | t :: _=>t.kind
 | []=>0
def bT:List Tok→List UInt8
 | t :: _=>t.text
 | []=>[]
def jR:List Tok→Int
 | t :: _=>t.n
 | []=>0
def isT (x:List UInt8) (ts:List Tok):Bool:=(aj ts == 2 || aj ts == 4) && bT ts == x
def af (x:List UInt8) (ts:List Tok):Except aY (List Tok):=if isT x ts then .ok ts.tail else .error (nowAt ts,140)
def aM (ts:List Tok):Except aY (List UInt8×List Tok):=if aj ts=1 then .ok (bT ts,ts.tail) else .error (nowAt ts,140)
def aR (x:List UInt8) (deep:Nat) (ts:List Tok):Except aY (List Tok):=if isT x ts && decide (64≤deep) then .error (nowAt ts,141) else af x ts
def dV:List (List UInt8):=[[60],[60,61],[61,61],[33,61],[43],[45],[124],[94],[42],[47],[37],[38],[60,60],[62,62]]
def aA (n:Nat):Nat:=if n≤4 then 1 else if n≤8 then 2 else 3
def bY (n:Nat):List UInt8:=dV.getD (n - 1) []
def markFrom (of:Nat) (ts:List Tok):Nat→List (List UInt8)→Nat
 | _,[]=>0
 | n,m :: r=>if aA n=of∧isT m ts=true then n else markFrom of ts (n+1) r
def bQ (of:Nat) (ts:List Tok):Nat:=markFrom of ts 1 dV
mutual
def binS:Nat→Nat→Nat→List Tok→Except aY (Item×List Tok)
 | 0,_,_,_=>.error aI
 | f+1,of,deep,ts =>
  if 3<of then unS f deep ts
  else match binS f (of+1) deep ts with
   | .error e=>.error e
   | .ok (x,ts1)=>loopS f of deep (nowAt ts) x ts1
def loopS:Nat→Nat→Nat→Nat→Item→List Tok→Except aY (Item×List Tok)
 | 0,_,_,_,_,_=>.error aI
 | f+1,of,deep,at',x,ts =>
  if bQ of ts=0 then .ok (x,ts)
  else match binS f (of+1) deep ts.tail with
   | .error e=>.error e
   | .ok (y,ts1)=>loopS f of deep at' (.mk 21 [] (bQ of ts) at' [x,y]) ts1
def unS:Nat→Nat→List Tok→Except aY (Item×List Tok)
 | 0,_,_=>.error aI
 | f+1,deep,ts =>
  if isT [45] ts=true then
   match aR [45] deep ts with
   | .error e=>.error e
   | .ok ts1=>match unS f (deep+1) ts1 with
    | .error e=>.error e
    | .ok (x,ts2)=>.ok (.mk 20 [] 1 (nowAt ts) [x],ts2)
  else if isT [33] ts=true then
   match aR [33] deep ts with
   | .error e=>.error e
   | .ok ts1=>match unS f (deep+1) ts1 with
    | .error e=>.error e
    | .ok (x,ts2)=>.ok (.mk 20 [] 2 (nowAt ts) [x],ts2)
  else cB f deep ts
def cB:Nat→Nat→List Tok→Except aY (Item×List Tok)
 | 0,_,_=>.error aI
 | f+1,deep,ts =>
  if aj ts=3 then .ok (.mk 17 [] (jR ts) (nowAt ts) [],ts.tail)
  else if aj ts=1 then
   if isT [91] ts.tail=true then
    match aR [91] deep ts.tail with
    | .error e=>.error e
    | .ok ts1=>match binS f 1 (deep+1) ts1 with
     | .error e=>.error e
     | .ok (x,ts2)=>match af [93] ts2 with
      | .error e=>.error e
      | .ok ts3=>.ok (.mk 19 (bT ts) 0 (nowAt ts) [x],ts3)
   else .ok (.mk 18 (bT ts) 0 (nowAt ts) [],ts.tail)
  else match aR [40] deep ts with
   | .error e=>.error e
   | .ok ts1=>match binS f 1 (deep+1) ts1 with
    | .error e=>.error e
    | .ok (x,ts2)=>match af [41] ts2 with
     | .error e=>.error e
     | .ok ts3=>.ok (x,ts3)
end
def argsS:Nat→Nat→Bool→List Item→List Tok→Except aY (List Item×List Tok)
 | 0,_,_,_,_=>.error aI
 | f+1,deep,first,acc,ts =>
  if isT [41] ts=true then .ok (acc,ts)
  else match (if first then .ok ts else af [44] ts) with
   | .error e=>.error e
   | .ok ts1=>match binS f 1 deep ts1 with
    | .error e=>.error e
    | .ok (x,ts2)=>argsS f deep false (acc ++ [x]) ts2
def parsS:Nat→Bool→List Item→List Tok→Except aY (List Item×List Tok)
 | 0,_,_,_=>.error aI
 | f+1,first,acc,ts =>
  if isT [41] ts=true then .ok (acc,ts)
  else match (if first then .ok ts else af [44] ts) with
   | .error e=>.error e
   | .ok ts1=>match aM ts1 with
    | .error e=>.error e
    | .ok (t,ts2)=>parsS f false (acc ++ [.mk 4 t 0 (nowAt ts1) []]) ts2
def bA (f deep:Nat) (ts:List Tok):Except aY (Item×List Tok) :=
 match binS f 1 deep ts with
 | .error e=>.error e
 | .ok (x,ts1)=>match af [59] ts1 with
  | .error e=>.error e
  | .ok ts2=>.ok (x,ts2)
def dn:List (List UInt8×Nat):=[([118,97,114],6),([105,102],9),([102,111,114],10),([114,101,116,117,114,110],11),([112,114,105,110,116],12),([101,120,105,116],13),([114,101,97,100],14),([99,97,108,108],15)]
def aG (ts:List Tok):Nat:=if aj ts=2 then ((dn.lookup (bT ts)).getD 0) else 0
def bS (f deep at':Nat) (ts:List Tok):Except aY (Item×List Tok) :=
 match aM ts with
 | .error e=>.error e
 | .ok (t,ts1)=>match af [61] ts1 with
  | .error e=>.error e
  | .ok ts2=>match bA f deep ts2 with
   | .error e=>.error e
   | .ok (x,ts3)=>.ok (.mk 6 t 0 at' [x],ts3)
def fC (at':Nat) (ts:List Tok):Except aY (Item×List Tok) :=
 match aM ts with
 | .error e=>.error e
 | .ok (t,ts1)=>match af [59] ts1 with
  | .error e=>.error e
  | .ok ts2=>.ok (.mk 14 t 0 at' [],ts2)
def callS (f deep at':Nat) (ts:List Tok):Except aY (Item×List Tok) :=
 match aM ts with
 | .error e=>.error e
 | .ok (t,ts1)=>match af [61] ts1 with
  | .error e=>.error e
  | .ok ts2=>match aM ts2 with
   | .error e=>.error e
   | .ok (u,ts3)=>match af [40] ts3 with
    | .error e=>.error e
    | .ok ts4=>match argsS f deep true [] ts4 with
     | .error e=>.error e
     | .ok (l,ts5)=>match af [41] ts5 with
      | .error e=>.error e
      | .ok ts6=>match af [59] ts6 with
       | .error e=>.error e
       | .ok ts7=>.ok (.mk 15 t 0 at' (.mk 16 u 0 (nowAt ts2) [] :: l),ts7)
def bH (f deep:Nat) (ts:List Tok):Except aY (Item×List Tok) :=
 match aM ts with
 | .error e=>.error e
 | .ok (t,ts1) =>
  if isT [91] ts1=true then
   match aR [91] deep ts1 with
   | .error e=>.error e
   | .ok ts2=>match binS f 1 (deep+1) ts2 with
    | .error e=>.error e
    | .ok (x,ts3)=>match af [93] ts3 with
     | .error e=>.error e
     | .ok ts4=>match af [61] ts4 with
      | .error e=>.error e
      | .ok ts5=>match bA f deep ts5 with
       | .error e=>.error e
       | .ok (y,ts6)=>.ok (.mk 8 t 0 (nowAt ts) [x,y],ts6)
  else match af [61] ts1 with
   | .error e=>.error e
   | .ok ts2=>match bA f deep ts2 with
    | .error e=>.error e
    | .ok (x,ts3)=>.ok (.mk 7 t 0 (nowAt ts) [x],ts3)
mutual
def aH:Nat→Nat→List Tok→Except aY (Item×List Tok)
 | 0,_,_=>.error aI
 | f+1,deep,ts=>match aR [123] deep ts with
  | .error e=>.error e
  | .ok ts1=>match stmtsS f (deep+1) [] ts1 with
   | .error e=>.error e
   | .ok (l,ts2)=>match af [125] ts2 with
    | .error e=>.error e
    | .ok ts3=>.ok (.mk 5 [] 0 (nowAt ts) l,ts3)
def stmtsS:Nat→Nat→List Item→List Tok→Except aY (List Item×List Tok)
 | 0,_,_,_=>.error aI
 | f+1,deep,acc,ts =>
  if isT [125] ts=true then .ok (acc,ts)
  else match aZ f deep ts with
   | .error e=>.error e
   | .ok (x,ts1)=>stmtsS f deep (acc ++ [x]) ts1
def bI:Nat→Nat→Nat→List Tok→Except aY (Item×List Tok)
 | 0,_,_,_=>.error aI
 | f+1,deep,at',ts=>match binS f 1 deep ts with
  | .error e=>.error e
  | .ok (x,ts1)=>match aH f deep ts1 with
   | .error e=>.error e
   | .ok (b,ts2) =>
    if isT [101,108,115,101] ts2=true then
     match aH f deep ts2.tail with
     | .error e=>.error e
     | .ok (c,ts3)=>.ok (.mk 9 [] 0 at' [x,b,c],ts3)
    else .ok (.mk 9 [] 0 at' [x,b],ts2)
def fw:Nat→Nat→Nat→List Tok→Except aY (Item×List Tok)
 | 0,_,_,_=>.error aI
 | f+1,deep,at',ts=>match binS f 1 deep ts with
  | .error e=>.error e
  | .ok (x,ts1)=>match aH f deep ts1 with
   | .error e=>.error e
   | .ok (b,ts2)=>.ok (.mk 10 [] 0 at' [x,b],ts2)
def aZ:Nat→Nat→List Tok→Except aY (Item×List Tok)
 | 0,_,_=>.error aI
 | f+1,deep,ts =>
  if aG ts=0 then bH f deep ts
  else if aG ts=6 then bS f deep (nowAt ts) ts.tail
  else if aG ts=9 then bI f deep (nowAt ts) ts.tail
  else if aG ts=10 then fw f deep (nowAt ts) ts.tail
  else if aG ts=14 then fC (nowAt ts) ts.tail
  else if aG ts=15 then callS f deep (nowAt ts) ts.tail
  else match bA f deep ts.tail with
   | .error e=>.error e
   | .ok (x,ts1)=>.ok (.mk (aG ts) [] 0 (nowAt ts) [x],ts1)
end
def dO (ts:List Tok):Except aY (Item×List Tok) :=
 match af [118,97,114] ts with
 | .error e=>.error e
 | .ok ts1=>match aM ts1 with
  | .error e=>.error e
  | .ok (t,ts2)=>match af [91] ts2 with
   | .error e=>.error e
   | .ok ts3=>if aj ts3=3 then
     match af [93] ts3.tail with
     | .error e=>.error e
     | .ok ts4=>match af [59] ts4 with
      | .error e=>.error e
      | .ok ts5=>.ok (.mk 2 t (jR ts3) (nowAt ts) [],ts5)
    else .error (nowAt ts3,140)
def dU (f:Nat) (ts:List Tok):Except aY (Item×List Tok) :=
 match af [102,117,110,99] ts with
 | .error e=>.error e
 | .ok ts1=>match aM ts1 with
  | .error e=>.error e
  | .ok (t,ts2)=>match af [40] ts2 with
   | .error e=>.error e
   | .ok ts3=>match parsS f true [] ts3 with
    | .error e=>.error e
    | .ok (l,ts4)=>match af [41] ts4 with
     | .error e=>.error e
     | .ok ts5=>match aH f 0 ts5 with
      | .error e=>.error e
      | .ok (b,ts6)=>.ok (.mk 3 t 0 (nowAt ts) (l ++ [b]),ts6)
def partsS:Nat→List Item→List Tok→Except aY (List Item)
 | 0,_,_=>.error aI
 | f+1,acc,ts =>
  if aj ts=5 then .ok acc
  else match (if isT [118,97,114] ts=true then dO ts else dU f ts) with
   | .error e=>.error e
   | .ok (x,ts1)=>partsS f (acc ++ [x]) ts1
def progS (ts:List Tok):Except aY Item :=
 match partsS (16*ts.length+16) [] ts with
 | .error e=>.error e
 | .ok l=>.ok (.mk 1 [] 0 (nowAt ts) l)
def bD (src:List UInt8):Except aY Item :=
 match fZ src with
 | .error e=>.error e
 | .ok ts=>progS ts
end Go.Proofs.YtkkeocnnecegbaaGreatDoor
namespace Go.Proofs.YtkkeocnnecegbaaGreatDoor
inductive ah:List Tok→Prop
 | one (t:Tok):t.kind=5→ah [t]
 | more (t:Tok) (r:List Tok):t.kind≠5→ah r→ah (t :: r)
theorem ah.tail {ts:List Tok} (h:ah ts) (hk:aj ts≠5):ah ts.tail∧ts.tail.length+1=ts.length:=by
 cases h with
 | one t ht=>exact absurd ht hk
 | more t r ht hr=>exact⟨hr,rfl⟩
theorem gJ {x:List UInt8} {ts:List Tok} (h:isT x ts=true):aj ts≠5:=by
 intro e; rw [isT,e] at h; simp at h
theorem aB {x:List UInt8} {ts r:List Tok} (he:ah ts) (h:af x ts=.ok r):ah r∧r.length+1=ts.length∧r=ts.tail∧isT x ts=true:=by
 unfold af at h
 split at h
 ·rename_i hi
  injection h with h; subst h
  have:=he.tail (gJ hi)
  exact⟨this.1,this.2,rfl,hi⟩
 ·cases h
theorem bP {ts r:List Tok} {t:List UInt8} (he:ah ts) (h:aM ts=.ok (t,r)):ah r∧r.length+1=ts.length∧r=ts.tail∧t=bT ts∧aj ts=1:=by
 unfold aM at h
 split at h
 ·rename_i hi
  injection h with h; injection h with h1 h2; subst h1 h2
  have:=he.tail (by omega)
  exact⟨this.1,this.2,rfl,rfl,hi⟩
 ·cases h
theorem dL {x:List UInt8} {d:Nat} {ts r:List Tok} (he:ah ts) (h:aR x d ts=.ok r):ah r∧r.length+1=ts.length∧r=ts.tail∧isT x ts=true:=by
 unfold aR at h
 split at h
 ·cases h
 ·exact aB he h
theorem nD {of:Nat} {ts:List Tok}:∀ (l:List (List UInt8)) (n:Nat),markFrom of ts n l≠0→aj ts≠5
 | [],n,h=>absurd rfl h
 | m :: r,n,h=>by
  unfold markFrom at h
  split at h
  ·rename_i hc; exact gJ hc.2
  ·exact nD r _ h
theorem jm {of:Nat} {ts:List Tok} (he:ah ts) (h:bQ of ts≠0):ah ts.tail∧ts.tail.length+1=ts.length:=he.tail (nD _ _ h)
theorem bL {x:List UInt8} {ts:List Tok}:af x ts≠.error aI:=by
 unfold af; split <;> simp [aI]
theorem il {ts:List Tok}:aM ts≠.error aI:=by
 unfold aM; split <;> simp [aI]
theorem jI {x:List UInt8} {d:Nat} {ts:List Tok}:aR x d ts≠.error aI:=by
 unfold aR; split
 ·simp [aI]
 ·exact bL
def Sh (ts r:List Tok):Prop:=ah r∧r.length<ts.length
def Sg (ts r:List Tok):Prop:=ah r∧r.length≤ts.length
theorem qh:∀ f:Nat,
  (∀ of d ts x r,ah ts→binS f of d ts=.ok (x,r)→Sh ts r) ∧
  (∀ of d a x0 ts x r,ah ts→loopS f of d a x0 ts=.ok (x,r)→Sg ts r) ∧
  (∀ d ts x r,ah ts→unS f d ts=.ok (x,r)→Sh ts r) ∧
  (∀ d ts x r,ah ts→cB f d ts=.ok (x,r)→Sh ts r)
 | 0=>⟨by intros; simp_all [binS],by intros; simp_all [loopS],by intros; simp_all [unS],by intros; simp_all [cB]⟩
 | f+1=>by
  obtain ⟨hb,hl,hu,hf⟩:=qh f
  refine⟨?_,?_,?_,?_⟩
  ·intro of d ts x r he h
   unfold binS at h
   split at h
   ·exact hu d ts x r he h
   ·split at h
    ·cases h
    ·rename_i y ts1 h1
     obtain ⟨a1,a2⟩:=hb _ _ _ _ _ he h1
     obtain ⟨b1,b2⟩:=hl _ _ _ _ _ _ _ a1 h
     exact⟨b1,by omega⟩
  ·intro of d a x0 ts x r he h
   unfold loopS at h
   split at h
   ·injection h with h; injection h with h1 h2; subst h2; exact⟨he,Nat.le_refl _⟩
   ·rename_i hm
    obtain ⟨t1,t2⟩:=jm he hm
    split at h
    ·cases h
    ·rename_i y ts1 h1
     obtain ⟨a1,a2⟩:=hb _ _ _ _ _ t1 h1
     obtain ⟨b1,b2⟩:=hl _ _ _ _ _ _ _ a1 h
     exact⟨b1,by omega⟩
  ·intro d ts x r he h
   unfold unS at h
   split at h
   ·split at h
    ·cases h
    ·rename_i ts1 h0
     obtain ⟨c1,c2,_⟩:=dL he h0
     split at h
     ·cases h
     ·rename_i y ts2 h1
      obtain ⟨a1,a2⟩:=hu _ _ _ _ c1 h1
      injection h with h; injection h with h1 h2; subst h2
      exact⟨a1,by omega⟩
   ·split at h
    ·split at h
     ·cases h
     ·rename_i ts1 h0
      obtain ⟨c1,c2,_⟩:=dL he h0
      split at h
      ·cases h
      ·rename_i y ts2 h1
       obtain ⟨a1,a2⟩:=hu _ _ _ _ c1 h1
       injection h with h; injection h with h1 h2; subst h2
       exact⟨a1,by omega⟩
    ·exact hf d ts x r he h
  ·intro d ts x r he h
   unfold cB at h
   split at h
   ·rename_i hk
    injection h with h; injection h with h1 h2; subst h2
    obtain ⟨t1,t2⟩:=he.tail (by omega)
    exact⟨t1,by omega⟩
   ·split at h
    ·rename_i hk
     obtain ⟨t1,t2⟩:=he.tail (by omega)
     split at h
     ·split at h
      ·cases h
      ·rename_i ts1 h0
       obtain ⟨c1,c2,_⟩:=dL t1 h0
       split at h
       ·cases h
       ·rename_i y ts2 h1
        obtain ⟨a1,a2⟩:=hb _ _ _ _ _ c1 h1
        split at h
        ·cases h
        ·rename_i ts3 h2
         obtain ⟨d1,d2,_⟩:=aB a1 h2
         injection h with h; injection h with h1 h2; subst h2
         exact⟨d1,by omega⟩
     ·injection h with h; injection h with h1 h2; subst h2
      exact⟨t1,by omega⟩
    ·split at h
     ·cases h
     ·rename_i ts1 h0
      obtain ⟨c1,c2,_⟩:=dL he h0
      split at h
      ·cases h
      ·rename_i y ts2 h1
       obtain ⟨a1,a2⟩:=hb _ _ _ _ _ c1 h1
       split at h
       ·cases h
       ·rename_i ts3 h2
        obtain ⟨d1,d2,_⟩:=aB a1 h2
        injection h with h; injection h with h1 h2; subst h2
        exact⟨d1,by omega⟩
theorem uW:∀ f:Nat,
  (∀ of d ts,ah ts→of≤4→12*ts.length+8≤f+of→binS f of d ts≠.error aI) ∧
  (∀ of d a x0 ts,ah ts→of≤3→12*ts.length+1≤f→loopS f of d a x0 ts≠.error aI) ∧
  (∀ d ts,ah ts→12*ts.length+3≤f→unS f d ts≠.error aI) ∧
  (∀ d ts,ah ts→12*ts.length+2≤f→cB f d ts≠.error aI)
 | 0=>by
  have hp:∀ ts,ah ts→0<ts.length:=fun ts h=>by cases h <;> simp
  refine⟨fun of d ts he ho hn=>?_,fun of d a x0 ts he ho hn=>?_,fun d ts he hn=>?_,fun d ts he hn=>?_⟩ <;> (have:=hp ts he; omega)
 | f+1=>by
  obtain ⟨hb,hl,hu,hf⟩:=uW f
  obtain ⟨ob,ol,ou,of'⟩:=qh f
  refine⟨?_,?_,?_,?_⟩
  ·intro of d ts he ho hn
   unfold binS
   split
   ·exact hu d ts he (by omega)
   ·split
    ·rename_i e h1
     intro h; injection h with h; subst h
     exact hb _ _ _ he (by omega) (by omega) h1
    ·rename_i y ts1 h1
     obtain ⟨a1,a2⟩:=ob _ _ _ _ _ he h1
     exact hl _ _ _ _ _ a1 (by omega) (by omega)
  ·intro of d a x0 ts he ho hn
   unfold loopS
   split
   ·simp
   ·rename_i hm
    obtain ⟨t1,t2⟩:=jm he hm
    split
    ·rename_i e h1
     intro h; injection h with h; subst h
     exact hb _ _ _ t1 (by omega) (by omega) h1
    ·rename_i y ts1 h1
     obtain ⟨a1,a2⟩:=ob _ _ _ _ _ t1 h1
     exact hl _ _ _ _ _ a1 (by omega) (by omega)
  ·intro d ts he hn
   unfold unS
   split
   ·split
    ·rename_i e h1
     intro h; injection h with h; subst h
     exact jI h1
    ·rename_i ts1 h0
     obtain ⟨c1,c2,_⟩:=dL he h0
     split
     ·rename_i e h1
      intro h; injection h with h; subst h
      exact hu _ _ c1 (by omega) h1
     ·simp
   ·split
    ·split
     ·rename_i e h1
      intro h; injection h with h; subst h
      exact jI h1
     ·rename_i ts1 h0
      obtain ⟨c1,c2,_⟩:=dL he h0
      split
      ·rename_i e h1
       intro h; injection h with h; subst h
       exact hu _ _ c1 (by omega) h1
      ·simp
    ·exact hf d ts he (by omega)
  ·intro d ts he hn
   unfold cB
   split
   ·simp
   ·split
    ·rename_i hk
     obtain ⟨t1,t2⟩:=he.tail (by omega)
     split
     ·split
      ·rename_i e h1
       intro h; injection h with h; subst h
       exact jI h1
      ·rename_i ts1 h0
       obtain ⟨c1,c2,_⟩:=dL t1 h0
       split
       ·rename_i e h1
        intro h; injection h with h; subst h
        exact hb _ _ _ c1 (by omega) (by omega) h1
       ·split
        ·rename_i e h1
         intro h; injection h with h; subst h
         exact bL h1
        ·simp
     ·simp
    ·split
     ·rename_i e h1
      intro h; injection h with h; subst h
      exact jI h1
     ·rename_i ts1 h0
      obtain ⟨c1,c2,_⟩:=dL he h0
      split
      ·rename_i e h1
       intro h; injection h with h; subst h
       exact hb _ _ _ c1 (by omega) (by omega) h1
      ·split
       ·rename_i e h1
        intro h; injection h with h; subst h
        exact bL h1
       ·simp
theorem fE {f of d:Nat} {ts r:List Tok} {x:Item} (he:ah ts) (h:binS f of d ts=.ok (x,r)):ah r∧r.length<ts.length:=(qh f).1 _ _ _ _ _ he h
theorem mf {f d:Nat} {ts:List Tok} (he:ah ts) (h:12*ts.length+7≤f):binS f 1 d ts≠.error aI:=(uW f).1 _ _ _ he (by omega) (by omega)
theorem uh:∀ (f d:Nat) (b:Bool) (acc:List Item) (ts r:List Tok) (l:List Item),ah ts→argsS f d b acc ts=.ok (l,r)→ah r∧r.length≤ts.length
 | 0,_,_,_,_,_,_,_,h=>by simp [argsS] at h
 | f+1,d,b,acc,ts,r,l,he,h=>by
  unfold argsS at h
  split at h
  ·injection h with h; injection h with h1 h2; subst h2; exact⟨he,Nat.le_refl _⟩
  ·split at h
   ·cases h
   ·rename_i ts1 h0
    have c:ah ts1∧ts1.length≤ts.length:=by
     cases b
     ·obtain ⟨c1,c2,_⟩:=aB he h0; exact⟨c1,by omega⟩
     ·injection h0 with h0; subst h0; exact⟨he,Nat.le_refl _⟩
    split at h
    ·cases h
    ·rename_i x ts2 h1
     obtain ⟨a1,a2⟩:=fE c.1 h1
     obtain ⟨b1,b2⟩:=uh f d false _ _ _ _ a1 h
     exact⟨b1,by omega⟩
theorem uw:∀ (f d:Nat) (b:Bool) (acc:List Item) (ts:List Tok),ah ts→12*ts.length+8≤f→argsS f d b acc ts≠.error aI
 | 0,_,_,_,_,_,h=>by omega
 | f+1,d,b,acc,ts,he,hn=>by
  unfold argsS
  split
  ·simp
  ·split
   ·rename_i e h0
    intro h; injection h with h; subst h
    cases b
    ·exact bL h0
    ·cases h0
   ·rename_i ts1 h0
    have c:ah ts1∧ts1.length≤ts.length:=by
     cases b
     ·obtain ⟨c1,c2,_⟩:=aB he h0; exact⟨c1,by omega⟩
     ·injection h0 with h0; subst h0; exact⟨he,Nat.le_refl _⟩
    split
    ·rename_i e h1
     intro h; injection h with h; subst h
     exact mf c.1 (by omega) h1
    ·rename_i x ts2 h1
     obtain ⟨a1,a2⟩:=fE c.1 h1
     exact uw f d false _ _ a1 (by omega)
theorem nO:∀ (f:Nat) (b:Bool) (acc:List Item) (ts r:List Tok) (l:List Item),ah ts→parsS f b acc ts=.ok (l,r)→ah r∧r.length≤ts.length
 | 0,_,_,_,_,_,_,h=>by simp [parsS] at h
 | f+1,b,acc,ts,r,l,he,h=>by
  unfold parsS at h
  split at h
  ·injection h with h; injection h with h1 h2; subst h2; exact⟨he,Nat.le_refl _⟩
  ·split at h
   ·cases h
   ·rename_i ts1 h0
    have c:ah ts1∧ts1.length≤ts.length:=by
     cases b
     ·obtain ⟨c1,c2,_⟩:=aB he h0; exact⟨c1,by omega⟩
     ·injection h0 with h0; subst h0; exact⟨he,Nat.le_refl _⟩
    split at h
    ·cases h
    ·rename_i x ts2 h1
     obtain ⟨a1,a2,_⟩:=bP c.1 h1
     obtain ⟨b1,b2⟩:=nO f false _ _ _ _ a1 h
     exact⟨b1,by omega⟩
theorem uF:∀ (f:Nat) (b:Bool) (acc:List Item) (ts:List Tok),ah ts→ts.length+1≤f→parsS f b acc ts≠.error aI
 | 0,_,_,_,_,h=>by omega
 | f+1,b,acc,ts,he,hn=>by
  unfold parsS
  split
  ·simp
  ·split
   ·rename_i e h0
    intro h; injection h with h; subst h
    cases b
    ·exact bL h0
    ·cases h0
   ·rename_i ts1 h0
    have c:ah ts1∧ts1.length≤ts.length:=by
     cases b
     ·obtain ⟨c1,c2,_⟩:=aB he h0; exact⟨c1,by omega⟩
     ·injection h0 with h0; subst h0; exact⟨he,Nat.le_refl _⟩
    split
    ·rename_i e h1
     intro h; injection h with h; subst h
     exact il h1
    ·rename_i x ts2 h1
     obtain ⟨a1,a2,_⟩:=bP c.1 h1
     exact uF f false _ _ a1 (by omega)
theorem qj {f d:Nat} {ts r:List Tok} {x:Item} (he:ah ts) (h:bA f d ts=.ok (x,r)):ah r∧r.length<ts.length:=by
 unfold bA at h
 split at h
 ·cases h
 ·rename_i y ts1 h1
  obtain ⟨a1,a2⟩:=fE he h1
  split at h
  ·cases h
  ·rename_i ts2 h2
   obtain ⟨d1,d2,_⟩:=aB a1 h2
   injection h with h; injection h with h1 h2; subst h2
   exact⟨d1,by omega⟩
theorem mW {f d:Nat} {ts:List Tok} (he:ah ts) (hn:12*ts.length+7≤f):bA f d ts≠.error aI:=by
 unfold bA
 split
 ·rename_i e h1; intro h; injection h with h; subst h; exact mf he hn h1
 ·split
  ·rename_i e h1; intro h; injection h with h; subst h; exact bL h1
  ·simp
theorem AZ {f d a:Nat} {ts r:List Tok} {x:Item} (he:ah ts) (h:bS f d a ts=.ok (x,r)):ah r∧r.length<ts.length:=by
 unfold bS at h
 split at h
 ·cases h
 ·rename_i t ts1 h1
  obtain ⟨a1,a2,_⟩:=bP he h1
  split at h
  ·cases h
  ·rename_i ts2 h2
   obtain ⟨b1,b2,_⟩:=aB a1 h2
   split at h
   ·cases h
   ·rename_i y ts3 h3
    obtain ⟨c1,c2⟩:=qj b1 h3
    injection h with h; injection h with h1 h2; subst h2
    exact⟨c1,by omega⟩
theorem xA {f d a:Nat} {ts:List Tok} (he:ah ts) (hn:12*ts.length+7≤f):bS f d a ts≠.error aI:=by
 unfold bS
 split
 ·rename_i e h1; intro h; injection h with h; subst h; exact il h1
 ·rename_i t ts1 h1
  obtain ⟨a1,a2,_⟩:=bP he h1
  split
  ·rename_i e h1; intro h; injection h with h; subst h; exact bL h1
  ·rename_i ts2 h2
   obtain ⟨b1,b2,_⟩:=aB a1 h2
   split
   ·rename_i e h1; intro h; injection h with h; subst h; exact mW b1 (by omega) h1
   ·simp
theorem IZ {a:Nat} {ts r:List Tok} {x:Item} (he:ah ts) (h:fC a ts=.ok (x,r)):ah r∧r.length<ts.length:=by
 unfold fC at h
 split at h
 ·cases h
 ·rename_i t ts1 h1
  obtain ⟨a1,a2,_⟩:=bP he h1
  split at h
  ·cases h
  ·rename_i ts2 h2
   obtain ⟨b1,b2,_⟩:=aB a1 h2
   injection h with h; injection h with h1 h2; subst h2
   exact⟨b1,by omega⟩
theorem El {a:Nat} {ts:List Tok}:fC a ts≠.error aI:=by
 unfold fC
 split
 ·rename_i e h1; intro h; injection h with h; subst h; exact il h1
 ·split
  ·rename_i e h1; intro h; injection h with h; subst h; exact bL h1
  ·simp
theorem IK {f d a:Nat} {ts r:List Tok} {x:Item} (he:ah ts) (h:callS f d a ts=.ok (x,r)):ah r∧r.length<ts.length:=by
 unfold callS at h
 split at h
 ·cases h
 rename_i t ts1 h1
 obtain ⟨a1,a2,_⟩:=bP he h1
 split at h
 ·cases h
 rename_i ts2 h2
 obtain ⟨b1,b2,_⟩:=aB a1 h2
 split at h
 ·cases h
 rename_i u ts3 h3
 obtain ⟨c1,c2,_⟩:=bP b1 h3
 split at h
 ·cases h
 rename_i ts4 h4
 obtain ⟨d1,d2,_⟩:=aB c1 h4
 split at h
 ·cases h
 rename_i l ts5 h5
 obtain ⟨e1,e2⟩:=uh _ _ _ _ _ _ _ d1 h5
 split at h
 ·cases h
 rename_i ts6 h6
 obtain ⟨f1,f2,_⟩:=aB e1 h6
 split at h
 ·cases h
 rename_i ts7 h7
 obtain ⟨g1,g2,_⟩:=aB f1 h7
 injection h with h; injection h with h1 h2; subst h2
 exact⟨g1,by omega⟩
theorem Em {f d a:Nat} {ts:List Tok} (he:ah ts) (hn:12*ts.length+8≤f):callS f d a ts≠.error aI:=by
 unfold callS
 split
 ·rename_i e h1; intro h; injection h with h; subst h; exact il h1
 rename_i t ts1 h1
 obtain ⟨a1,a2,_⟩:=bP he h1
 split
 ·rename_i e h1; intro h; injection h with h; subst h; exact bL h1
 rename_i ts2 h2
 obtain ⟨b1,b2,_⟩:=aB a1 h2
 split
 ·rename_i e h1; intro h; injection h with h; subst h; exact il h1
 rename_i u ts3 h3
 obtain ⟨c1,c2,_⟩:=bP b1 h3
 split
 ·rename_i e h1; intro h; injection h with h; subst h; exact bL h1
 rename_i ts4 h4
 obtain ⟨d1,d2,_⟩:=aB c1 h4
 split
 ·rename_i e h1; intro h; injection h with h; subst h; exact uw _ _ _ _ _ d1 (by omega) h1
 rename_i l ts5 h5
 split
 ·rename_i e h1; intro h; injection h with h; subst h; exact bL h1
 split
 ·rename_i e h1; intro h; injection h with h; subst h; exact bL h1
 ·simp
theorem CV {f d:Nat} {ts r:List Tok} {x:Item} (he:ah ts) (h:bH f d ts=.ok (x,r)):ah r∧r.length<ts.length:=by
 unfold bH at h
 split at h
 ·cases h
 rename_i t ts1 h1
 obtain ⟨a1,a2,_⟩:=bP he h1
 split at h
 ·split at h
  ·cases h
  rename_i ts2 h2
  obtain ⟨b1,b2,_⟩:=dL a1 h2
  split at h
  ·cases h
  rename_i x ts3 h3
  obtain ⟨c1,c2⟩:=fE b1 h3
  split at h
  ·cases h
  rename_i ts4 h4
  obtain ⟨d1,d2,_⟩:=aB c1 h4
  split at h
  ·cases h
  rename_i ts5 h5
  obtain ⟨e1,e2,_⟩:=aB d1 h5
  split at h
  ·cases h
  rename_i y ts6 h6
  obtain ⟨f1,f2⟩:=qj e1 h6
  injection h with h; injection h with h1 h2; subst h2
  exact⟨f1,by omega⟩
 ·split at h
  ·cases h
  rename_i ts2 h2
  obtain ⟨b1,b2,_⟩:=aB a1 h2
  split at h
  ·cases h
  rename_i y ts3 h3
  obtain ⟨f1,f2⟩:=qj b1 h3
  injection h with h; injection h with h1 h2; subst h2
  exact⟨f1,by omega⟩
theorem zh {f d:Nat} {ts:List Tok} (he:ah ts) (hn:12*ts.length+7≤f):bH f d ts≠.error aI:=by
 unfold bH
 split
 ·rename_i e h1; intro h; injection h with h; subst h; exact il h1
 rename_i t ts1 h1
 obtain ⟨a1,a2,_⟩:=bP he h1
 split
 ·split
  ·rename_i e h1; intro h; injection h with h; subst h; exact jI h1
  rename_i ts2 h2
  obtain ⟨b1,b2,_⟩:=dL a1 h2
  split
  ·rename_i e h1; intro h; injection h with h; subst h; exact mf b1 (by omega) h1
  rename_i x ts3 h3
  obtain ⟨c1,c2⟩:=fE b1 h3
  split
  ·rename_i e h1; intro h; injection h with h; subst h; exact bL h1
  rename_i ts4 h4
  obtain ⟨d1,d2,_⟩:=aB c1 h4
  split
  ·rename_i e h1; intro h; injection h with h; subst h; exact bL h1
  rename_i ts5 h5
  obtain ⟨e1,e2,_⟩:=aB d1 h5
  split
  ·rename_i e h1; intro h; injection h with h; subst h; exact mW e1 (by omega) h1
  ·simp
 ·split
  ·rename_i e h1; intro h; injection h with h; subst h; exact bL h1
  rename_i ts2 h2
  obtain ⟨b1,b2,_⟩:=aB a1 h2
  split
  ·rename_i e h1; intro h; injection h with h; subst h; exact mW b1 (by omega) h1
  ·simp
theorem iI {ts:List Tok} (he:ah ts) (h:aG ts≠0):ah ts.tail∧ts.tail.length+1=ts.length:=by
 refine he.tail ?_
 unfold aG at h
 split at h
 ·omega
 ·exact absurd rfl h
theorem kC:∀ f:Nat,
  (∀ d ts x r,ah ts→aH f d ts=.ok (x,r)→Sh ts r) ∧
  (∀ d acc ts x r,ah ts→stmtsS f d acc ts=.ok (x,r)→Sg ts r) ∧
  (∀ d a ts x r,ah ts→bI f d a ts=.ok (x,r)→Sh ts r) ∧
  (∀ d a ts x r,ah ts→fw f d a ts=.ok (x,r)→Sh ts r) ∧
  (∀ d ts x r,ah ts→aZ f d ts=.ok (x,r)→Sh ts r)
 | 0=>⟨by intros; simp_all [aH],by intros; simp_all [stmtsS],by intros; simp_all [bI],by intros; simp_all [fw],by intros; simp_all [aZ]⟩
 | f+1=>by
  obtain ⟨hb,hl,hc,hf,hs⟩:=kC f
  refine⟨?_,?_,?_,?_,?_⟩
  ·intro d ts x r he h
   unfold aH at h
   split at h
   ·cases h
   rename_i ts1 h1
   obtain ⟨a1,a2,_⟩:=dL he h1
   split at h
   ·cases h
   rename_i l ts2 h2
   obtain ⟨b1,b2⟩:=hl _ _ _ _ _ a1 h2
   split at h
   ·cases h
   rename_i ts3 h3
   obtain ⟨c1,c2,_⟩:=aB b1 h3
   injection h with h; injection h with h1 h2; subst h2
   exact⟨c1,by omega⟩
  ·intro d acc ts x r he h
   unfold stmtsS at h
   split at h
   ·injection h with h; injection h with h1 h2; subst h2; exact⟨he,Nat.le_refl _⟩
   split at h
   ·cases h
   rename_i y ts1 h1
   obtain ⟨a1,a2⟩:=hs _ _ _ _ he h1
   obtain ⟨b1,b2⟩:=hl _ _ _ _ _ a1 h
   exact⟨b1,by omega⟩
  ·intro d a ts x r he h
   unfold bI at h
   split at h
   ·cases h
   rename_i y ts1 h1
   obtain ⟨a1,a2⟩:=fE he h1
   split at h
   ·cases h
   rename_i b ts2 h2
   obtain ⟨b1,b2⟩:=hb _ _ _ _ a1 h2
   split at h
   ·rename_i hi
    obtain ⟨t1,t2⟩:=b1.tail (gJ hi)
    split at h
    ·cases h
    rename_i c ts3 h3
    obtain ⟨c1,c2⟩:=hb _ _ _ _ t1 h3
    injection h with h; injection h with h1 h2; subst h2
    exact⟨c1,by omega⟩
   ·injection h with h; injection h with h1 h2; subst h2
    exact⟨b1,by omega⟩
  ·intro d a ts x r he h
   unfold fw at h
   split at h
   ·cases h
   rename_i y ts1 h1
   obtain ⟨a1,a2⟩:=fE he h1
   split at h
   ·cases h
   rename_i b ts2 h2
   obtain ⟨b1,b2⟩:=hb _ _ _ _ a1 h2
   injection h with h; injection h with h1 h2; subst h2
   exact⟨b1,by omega⟩
  ·intro d ts x r he h
   unfold aZ at h
   split at h
   ·exact CV he h
   rename_i hw
   obtain ⟨t1,t2⟩:=iI he hw
   split at h
   ·obtain ⟨c1,c2⟩:=AZ t1 h; exact⟨c1,by omega⟩
   split at h
   ·obtain ⟨c1,c2⟩:=hc _ _ _ _ _ t1 h; exact⟨c1,by omega⟩
   split at h
   ·obtain ⟨c1,c2⟩:=hf _ _ _ _ _ t1 h; exact⟨c1,by omega⟩
   split at h
   ·obtain ⟨c1,c2⟩:=IZ t1 h; exact⟨c1,by omega⟩
   split at h
   ·obtain ⟨c1,c2⟩:=IK t1 h; exact⟨c1,by omega⟩
   split at h
   ·cases h
   rename_i y ts1 h1
   obtain ⟨c1,c2⟩:=qj t1 h1
   injection h with h; injection h with h1 h2; subst h2
   exact⟨c1,by omega⟩
theorem uQ:∀ f:Nat,
  (∀ d ts,ah ts→12*ts.length+10≤f→aH f d ts≠.error aI) ∧
  (∀ d acc ts,ah ts→12*ts.length+12≤f→stmtsS f d acc ts≠.error aI) ∧
  (∀ d a ts,ah ts→12*ts.length+10≤f→bI f d a ts≠.error aI) ∧
  (∀ d a ts,ah ts→12*ts.length+10≤f→fw f d a ts≠.error aI) ∧
  (∀ d ts,ah ts→12*ts.length+10≤f→aZ f d ts≠.error aI)
 | 0=>⟨by intros; omega,by intros; omega,by intros; omega,by intros; omega,by intros; omega⟩
 | f+1=>by
  obtain ⟨hb,hl,hc,hf,hs⟩:=uQ f
  obtain ⟨ob,ol,oc,of',os⟩:=kC f
  refine⟨?_,?_,?_,?_,?_⟩
  ·intro d ts he hn
   unfold aH
   split
   ·rename_i e h1; intro h; injection h with h; subst h; exact jI h1
   rename_i ts1 h1
   obtain ⟨a1,a2,_⟩:=dL he h1
   split
   ·rename_i e h1; intro h; injection h with h; subst h; exact hl _ _ _ a1 (by omega) h1
   rename_i l ts2 h2
   obtain ⟨b1,b2⟩:=ol _ _ _ _ _ a1 h2
   split
   ·rename_i e h1; intro h; injection h with h; subst h; exact bL h1
   ·simp
  ·intro d acc ts he hn
   unfold stmtsS
   split
   ·simp
   split
   ·rename_i e h1; intro h; injection h with h; subst h; exact hs _ _ he (by omega) h1
   rename_i y ts1 h1
   obtain ⟨a1,a2⟩:=os _ _ _ _ he h1
   exact hl _ _ _ a1 (by omega)
  ·intro d a ts he hn
   unfold bI
   split
   ·rename_i e h1; intro h; injection h with h; subst h; exact mf he (by omega) h1
   rename_i y ts1 h1
   obtain ⟨a1,a2⟩:=fE he h1
   split
   ·rename_i e h1; intro h; injection h with h; subst h; exact hb _ _ a1 (by omega) h1
   rename_i b ts2 h2
   obtain ⟨b1,b2⟩:=ob _ _ _ _ a1 h2
   split
   ·rename_i hi
    obtain ⟨t1,t2⟩:=b1.tail (gJ hi)
    split
    ·rename_i e h1; intro h; injection h with h; subst h; exact hb _ _ t1 (by omega) h1
    ·simp
   ·simp
  ·intro d a ts he hn
   unfold fw
   split
   ·rename_i e h1; intro h; injection h with h; subst h; exact mf he (by omega) h1
   rename_i y ts1 h1
   obtain ⟨a1,a2⟩:=fE he h1
   split
   ·rename_i e h1; intro h; injection h with h; subst h; exact hb _ _ a1 (by omega) h1
   ·simp
  ·intro d ts he hn
   unfold aZ
   split
   ·exact zh he (by omega)
   rename_i hw
   obtain ⟨t1,t2⟩:=iI he hw
   split
   ·exact xA t1 (by omega)
   split
   ·exact hc _ _ _ t1 (by omega)
   split
   ·exact hf _ _ _ t1 (by omega)
   split
   ·exact El
   split
   ·exact Em t1 (by omega)
   split
   ·rename_i e h1; intro h; injection h with h; subst h; exact mW t1 (by omega) h1
   ·simp
theorem xZ {ts r:List Tok} {x:Item} (he:ah ts) (h:dO ts=.ok (x,r)):ah r∧r.length<ts.length:=by
 unfold dO at h
 split at h
 ·cases h
 rename_i ts1 h1
 obtain ⟨a1,a2,_⟩:=aB he h1
 split at h
 ·cases h
 rename_i t ts2 h2
 obtain ⟨b1,b2,_⟩:=bP a1 h2
 split at h
 ·cases h
 rename_i ts3 h3
 obtain ⟨c1,c2,_⟩:=aB b1 h3
 split at h
 ·rename_i hk
  obtain ⟨k1,k2⟩:=c1.tail (by omega)
  split at h
  ·cases h
  rename_i ts4 h4
  obtain ⟨d1,d2,_⟩:=aB k1 h4
  split at h
  ·cases h
  rename_i ts5 h5
  obtain ⟨e1,e2,_⟩:=aB d1 h5
  injection h with h; injection h with h1 h2; subst h2
  exact⟨e1,by omega⟩
 ·cases h
theorem Bc {ts:List Tok}:dO ts≠.error aI:=by
 unfold dO
 split
 ·rename_i e h1; intro h; injection h with h; subst h; exact bL h1
 split
 ·rename_i e h1; intro h; injection h with h; subst h; exact il h1
 split
 ·rename_i e h1; intro h; injection h with h; subst h; exact bL h1
 split
 ·split
  ·rename_i e h1; intro h; injection h with h; subst h; exact bL h1
  split
  ·rename_i e h1; intro h; injection h with h; subst h; exact bL h1
  ·simp
 ·simp [aI]
theorem Ap {f:Nat} {ts r:List Tok} {x:Item} (he:ah ts) (h:dU f ts=.ok (x,r)):ah r∧r.length<ts.length:=by
 unfold dU at h
 split at h
 ·cases h
 rename_i ts1 h1
 obtain ⟨a1,a2,_⟩:=aB he h1
 split at h
 ·cases h
 rename_i t ts2 h2
 obtain ⟨b1,b2,_⟩:=bP a1 h2
 split at h
 ·cases h
 rename_i ts3 h3
 obtain ⟨c1,c2,_⟩:=aB b1 h3
 split at h
 ·cases h
 rename_i l ts4 h4
 obtain ⟨d1,d2⟩:=nO _ _ _ _ _ _ c1 h4
 split at h
 ·cases h
 rename_i ts5 h5
 obtain ⟨e1,e2,_⟩:=aB d1 h5
 split at h
 ·cases h
 rename_i b ts6 h6
 obtain ⟨f1,f2⟩:=(kC f).1 _ _ _ _ e1 h6
 injection h with h; injection h with h1 h2; subst h2
 exact⟨f1,by omega⟩
theorem DT {f:Nat} {ts:List Tok} (he:ah ts) (hn:12*ts.length+10≤f):dU f ts≠.error aI:=by
 unfold dU
 split
 ·rename_i e h1; intro h; injection h with h; subst h; exact bL h1
 rename_i ts1 h1
 obtain ⟨a1,a2,_⟩:=aB he h1
 split
 ·rename_i e h1; intro h; injection h with h; subst h; exact il h1
 rename_i t ts2 h2
 obtain ⟨b1,b2,_⟩:=bP a1 h2
 split
 ·rename_i e h1; intro h; injection h with h; subst h; exact bL h1
 rename_i ts3 h3
 obtain ⟨c1,c2,_⟩:=aB b1 h3
 split
 ·rename_i e h1; intro h; injection h with h; subst h; exact uF _ _ _ _ c1 (by omega) h1
 rename_i l ts4 h4
 obtain ⟨d1,d2⟩:=nO _ _ _ _ _ _ c1 h4
 split
 ·rename_i e h1; intro h; injection h with h; subst h; exact bL h1
 rename_i ts5 h5
 obtain ⟨e1,e2,_⟩:=aB d1 h5
 split
 ·rename_i e h1; intro h; injection h with h; subst h; exact (uQ f).1 _ _ e1 (by omega) h1
 ·simp
theorem lH:∀ (f:Nat) (acc:List Item) (ts:List Tok),ah ts→12*ts.length+12≤f→partsS f acc ts≠.error aI
 | 0,_,_,_,h=>by omega
 | f+1,acc,ts,he,hn=>by
  unfold partsS
  split
  ·simp
  by_cases hv:isT [118,97,114] ts=true
  ·rw [if_pos hv]
   split
   ·rename_i e h1; intro h; injection h with h; subst h; exact Bc h1
   rename_i x ts1 h1
   obtain ⟨a1,a2⟩:=xZ he h1
   exact lH f _ _ a1 (by omega)
  ·rw [if_neg hv]
   split
   ·rename_i e h1; intro h; injection h with h; subst h; exact DT he (by omega) h1
   rename_i x ts1 h1
   obtain ⟨a1,a2⟩:=Ap he h1
   exact lH f _ _ a1 (by omega)
theorem uU {ts:List Tok} (he:ah ts):progS ts≠.error aI:=by
 unfold progS
 split
 ·rename_i e h1; intro h; injection h with h; subst h; exact lH _ _ _ he (by omega) h1
 ·simp
theorem zC:∀ (f:Nat) (l:List UInt8) (p:Nat) (acc r:List Tok),(∀ t∈acc,t.kind≠5)→lexFrom f l p acc=.ok r→ah r:=by
 have snoc:∀ (acc:List Tok) (e:Tok),(∀ t∈acc,t.kind≠5)→e.kind=5→ah (acc ++ [e]):=by
  intro acc e ha h5
  induction acc with
  | nil=>exact .one _ h5
  | cons t r ih=>exact .more _ _ (ha t (by simp)) (ih (fun u hu=>ha u (by simp [hu])))
 intro f
 induction f with
 | zero=>intro l p acc r ha h; unfold lexFrom at h; injection h with h; subst h; exact snoc _ _ ha rfl
 | succ f ih =>
  intro l p acc r ha h
  cases l with
  | nil=>unfold lexFrom at h; injection h with h; subst h; exact snoc _ _ ha rfl
  | cons c l =>
   unfold lexFrom at h
   split at h
   ·exact ih _ _ _ _ ha h
   split at h
   ·cases h
   rename_i k n v ht
   refine ih _ _ _ _ ?_ h
   intro t hm
   rw [List.mem_append,List.mem_singleton] at hm
   rcases hm with hm | rfl
   ·exact ha t hm
   ·show k≠5
    unfold tokAt at ht
    split at ht
    ·cases ht
    split at ht
    ·injection ht with ht; injection ht with h1 h2; subst h1; split <;> omega
    split at ht
    ·split at ht
     ·injection ht with ht; injection ht with h1 h2; omega
     ·cases ht
    split at ht
    ·cases ht
    ·injection ht with ht; injection ht with h1 h2; omega
theorem jB {l:List UInt8} {ts:List Tok} (h:fZ l=.ok ts):ah ts:=zC _ _ _ _ _ (by simp) h
end Go.Proofs.YtkkeocnnecegbaaGreatDoor
namespace Go.Proofs.YtkkeocnnecegbaaGreatDoor
abbrev Tk:=Nat×List UInt8×Int
def tk (t:Tok):Tk:=(t.kind,t.text,t.n)
def tks (ts:List Tok):List Tk:=ts.map tk
def mk4 (x:List UInt8):Tk:=(4,x,0)
def wd (x:List UInt8):Tk:=(2,x,0)
def nm (x:List UInt8):Tk:=(1,x,0)
def nb (n:Int):Tk:=(3,Lib.itoa n,n)
mutual
def erase:Item→Item
 | .mk k t n _ ks=>.mk k t n 0 (av ks)
def av:List Item→List Item
 | []=>[]
 | x :: r=>erase x :: av r
end
def aK:Item→Nat
 | .mk k _ _ _ _=>k
def outX:Nat→Item→List Tk
 | _,.mk 17 _ n _ _=>[nb n]
 | _,.mk 18 t _ _ _=>[nm t]
 | _,.mk 19 t _ _ [x]=>nm t :: mk4 [91] :: (outX 1 x ++ [mk4 [93]])
 | _,.mk 20 _ n _ [x]=>mk4 (if n=1 then [45] else [33]) :: outX 4 x
 | least,.mk 21 _ n _ [x,y] =>
  if aA n.toNat<least then mk4 [40] :: (outX (aA n.toNat) x ++ mk4 (bY n.toNat) :: outX (aA n.toNat+1) y ++ [mk4 [41]])
  else outX (aA n.toNat) x ++ mk4 (bY n.toNat) :: outX (aA n.toNat+1) y
 | _,_=>[]
def depX:Nat→Item→Nat
 | _,.mk 19 _ _ _ [x]=>depX 1 x+1
 | _,.mk 20 _ _ _ [x]=>depX 4 x+1
 | least,.mk 21 _ n _ [x,y] =>
  if aA n.toNat<least then max (depX (aA n.toNat) x) (depX (aA n.toNat+1) y)+1
  else max (depX (aA n.toNat) x) (depX (aA n.toNat+1) y)
 | _,_=>0
def WX:Item→Prop
 | .mk 17 t _ _ ks=>t=[]∧ks=[]
 | .mk 18 _ n _ ks=>n=0∧ks=[]
 | .mk 19 _ n _ [x]=>n=0∧WX x
 | .mk 20 t n _ [x]=>t=[]∧(n=1∨n=2)∧WX x
 | .mk 21 t n _ [x,y]=>t=[]∧(1≤n∧n≤14)∧WX x∧WX y
 | _=>False
def Stop (of:Nat) (ts:List Tok):Prop:=(∀ l,of≤l→l≤3→bQ l ts=0)∧isT [91] ts=false
theorem Stop.up {of:Nat} {ts:List Tok} (h:Stop of ts):Stop (of+1) ts:=⟨fun l h1 h2=>h.1 l (by omega) h2,h.2⟩
theorem aC {as:List Tok} {x:Tk} {l:List Tk} (h:tks as=x :: l):∃ t r,as=t :: r∧tk t=x∧tks r=l:=by
 cases as with
 | nil=>cases h
 | cons t r=>injection h with h1 h2; exact⟨t,r,rfl,h1,h2⟩
theorem dR {as:List Tok} {a b:List Tk} (h:tks as=a ++ b):∃ x y,as=x ++ y∧tks x=a∧tks y=b:=List.map_eq_append_iff.1 h
theorem fF {t:Tok} {x:Tk} (h:tk t=x):t.kind=x.1∧t.text=x.2.1∧t.n=x.2.2:=by subst h; exact⟨rfl,rfl,rfl⟩
theorem dz {t:Tok} {x:List UInt8} (h:tk t=mk4 x) (y:List UInt8) (r:List Tok):isT y (t :: r)=(x == y):=by
 obtain ⟨h1,h2,_⟩:=fF h
 simp only [isT,aj,bT,h1,h2,mk4]; rfl
theorem nQ {t:Tok} {x:List UInt8} (h:tk t=wd x) (y:List UInt8) (r:List Tok):isT y (t :: r)=(x == y):=by
 obtain ⟨h1,h2,_⟩:=fF h
 simp only [isT,aj,bT,h1,h2,wd]; rfl
theorem xc {t:Tok} {x:List UInt8} (h:tk t=nm x) (y:List UInt8) (r:List Tok):isT y (t :: r)=false:=by
 obtain ⟨h1,h2,_⟩:=fF h
 simp only [isT,aj,h1,nm]; rfl
theorem JS {t:Tok} {x:Int} (h:tk t=nb x) (y:List UInt8) (r:List Tok):isT y (t :: r)=false:=by
 obtain ⟨h1,h2,_⟩:=fF h
 simp only [isT,aj,h1,nb]; rfl
theorem take_mk {t:Tok} {x:List UInt8} (h:tk t=mk4 x) (r:List Tok):af x (t :: r)=.ok r:=by
 unfold af; rw [if_pos (by rw [dz h]; simp)]; rfl
theorem zW {t:Tok} {x:List UInt8} (h:tk t=wd x) (r:List Tok):af x (t :: r)=.ok r:=by
 unfold af; rw [if_pos (by rw [nQ h]; simp)]; rfl
theorem lL {t:Tok} {x:List UInt8} {d:Nat} (h:tk t=mk4 x) (hd:d<64) (r:List Tok):aR x d (t :: r)=.ok r:=by
 unfold aR; rw [if_neg (by simp; omega)]; exact take_mk h r
theorem jh {t:Tok} {x:List UInt8} (h:tk t=nm x) (r:List Tok):aM (t :: r)=.ok (x,r):=by
 obtain ⟨h1,h2,_⟩:=fF h
 unfold aM
 rw [if_pos (by simp only [aj,h1,nm])]
 simp only [bT,h2,nm]; rfl
theorem zR {n:Nat} (h1:1≤n) (h2:n≤14) {t:Tok} (h:tk t=mk4 (bY n)) (r:List Tok) (l:Nat):bQ l (t :: r)=if aA n=l then n else 0:=by
 have hi:∀ y,isT y (t :: r)=(bY n == y):=fun y=>dz h y r
 unfold bQ
 simp only [dV,markFrom,hi]
 have:n=1∨n=2∨n=3∨n=4∨n=5∨n=6∨n=7∨n=8∨n=9∨n=10∨n=11∨n=12∨n=13∨n=14:=by omega
 rcases this with rfl | rfl | rfl | rfl | rfl | rfl | rfl | rfl | rfl | rfl | rfl | rfl | rfl | rfl <;> simp [bY,dV,aA]
theorem kN (n:Nat):1≤aA n∧aA n≤3:=by unfold aA; split <;> (try split) <;> omega
theorem Ej {n:Nat} (h1:1≤n) (h2:n≤14) {t:Tok} (h:tk t=mk4 (bY n)) (r:List Tok):Stop (aA n+1) (t :: r):=by
 refine⟨fun l hl1 hl2=>?_,?_⟩
 ·rw [zR h1 h2 h,if_neg (by omega)]
 ·rw [dz h]
  have:n=1∨n=2∨n=3∨n=4∨n=5∨n=6∨n=7∨n=8∨n=9∨n=10∨n=11∨n=12∨n=13∨n=14:=by omega
  rcases this with rfl | rfl | rfl | rfl | rfl | rfl | rfl | rfl | rfl | rfl | rfl | rfl | rfl | rfl <;> decide
theorem jV {x:List UInt8} (hx:∀ m∈dV,(x == m)=false) (hb:(x == [91])=false) {t:Tok} {r:List Tok} (h:∀ y,isT y (t :: r)=(x == y)) (of:Nat):Stop of (t :: r):=by
 refine⟨fun l _ _=>?_,by rw [h]; exact hb⟩
 unfold bQ
 have:∀ (ms:List (List UInt8)) (n:Nat),(∀ m∈ms,(x == m)=false)→markFrom l (t :: r) n ms=0:=by
  intro ms
  induction ms with
  | nil=>intro n _; rfl
  | cons m r' ih =>
   intro n hm
   unfold markFrom
   rw [if_neg (by rw [h,hm m (by simp)]; simp)]
   exact ih _ (fun m' h'=>hm m' (by simp [h']))
 exact this _ _ hx
theorem sJ {t:Tok} {r:List Tok} (h:tk t=mk4 [41]) (of:Nat):Stop of (t :: r):=jV (x:=[41]) (by decide) (by decide) (fun y=>dz h y r) of
theorem rz {t:Tok} {r:List Tok} (h:tk t=mk4 [93]) (of:Nat):Stop of (t :: r):=jV (x:=[93]) (by decide) (by decide) (fun y=>dz h y r) of
theorem Dq {t:Tok} {r:List Tok} (h:tk t=mk4 [59]) (of:Nat):Stop of (t :: r):=jV (x:=[59]) (by decide) (by decide) (fun y=>dz h y r) of
theorem BR {t:Tok} {r:List Tok} (h:tk t=mk4 [44]) (of:Nat):Stop of (t :: r):=jV (x:=[44]) (by decide) (by decide) (fun y=>dz h y r) of
theorem Cq {t:Tok} {r:List Tok} (h:tk t=mk4 [123]) (of:Nat):Stop of (t :: r):=jV (x:=[123]) (by decide) (by decide) (fun y=>dz h y r) of
def QX (x:Item) (of:Nat):Prop:=∀ (d f:Nat) (as rest:List Tok),tks as=outX of x→d+depX of x≤64→Stop (of+1) rest→12*(as.length+rest.length)+8≤f+of →
 ∃ f' x',12*rest.length+1≤f'∧binS f of d (as ++ rest)=loopS f' of d (nowAt (as ++ rest)) x' rest∧erase x'=erase x
def PX (x:Item) (of:Nat):Prop:=∀ (d f:Nat) (as rest:List Tok),tks as=outX of x→d+depX of x≤64→Stop of rest→12*(as.length+rest.length)+8≤f+of →
 ∃ x',binS f of d (as ++ rest)=.ok (x',rest)∧erase x'=erase x
def UX (x:Item):Prop:=∀ (d f:Nat) (as rest:List Tok),tks as=outX 4 x→d+depX 4 x≤64→isT [91] rest=false→12*(as.length+rest.length)+3≤f →
 ∃ x',unS f d (as ++ rest)=.ok (x',rest)∧erase x'=erase x
theorem QX.toP {x:Item} {of:Nat} (h:QX x of) (ho:of≤3):PX x of:=by
 intro d f as rest h1 h2 h3 h4
 obtain ⟨f',x',g1,g2,g3⟩:=h d f as rest h1 h2 h3.up h4
 refine⟨x',?_,g3⟩
 rw [g2]
 obtain ⟨g,rfl⟩:∃ g,f'=g+1:=⟨f' - 1,by omega⟩
 unfold loopS
 rw [if_pos (h3.1 of (Nat.le_refl _) ho)]
theorem UX.toP {x:Item} (h:UX x):PX x 4:=by
 intro d f as rest h1 h2 h3 h4
 obtain ⟨g,rfl⟩:∃ g,f=g+1:=⟨f - 1,by omega⟩
 unfold binS
 rw [if_pos (by omega)]
 exact h d g as rest h1 h2 h3.2 (by omega)
theorem PX.toQ {x:Item} {of:Nat} (h:PX x (of+1)) (ho:of≤3) (e:outX of x=outX (of+1) x) (e2:depX of x=depX (of+1) x) (hne:outX of x≠[]):QX x of:=by
 intro d f as rest h1 h2 h3 h4
 have hpos:0<as.length:=by
  cases as with
  | nil=>exact absurd h1.symm hne
  | cons _ _=>simp
 obtain ⟨g,rfl⟩:∃ g,f=g+1:=⟨f - 1,by omega⟩
 obtain ⟨x',g1,g2⟩:=h d g as rest (by rw [h1,e]) (by rw [← e2]; exact h2) h3 (by omega)
 refine⟨g,x',by omega,?_,g2⟩
 unfold binS
 rw [if_neg (by omega),g1]
theorem fV {x:Item} (h:WX x) :
  (∃ n a,x=.mk 17 [] n a [])∨(∃ t a,x=.mk 18 t 0 a [])∨(∃ t a y,x=.mk 19 t 0 a [y]∧WX y) ∨
  (∃ n a y,x=.mk 20 [] n a [y]∧(n=1∨n=2)∧WX y)∨(∃ (n:Nat) (a:Nat) (y z:Item),x=.mk 21 [] (n:Int) a [y,z]∧1≤n∧n≤14∧WX y∧WX z):=by
 unfold WX at h
 split at h
 ·obtain ⟨rfl,rfl⟩:=h; exact Or.inl ⟨_,_,rfl⟩
 ·obtain ⟨rfl,rfl⟩:=h; exact Or.inr (Or.inl ⟨_,_,rfl⟩)
 ·obtain ⟨rfl,h⟩:=h; exact Or.inr (Or.inr (Or.inl ⟨_,_,_,rfl,h⟩))
 ·obtain ⟨rfl,h1,h2⟩:=h; exact Or.inr (Or.inr (Or.inr (Or.inl ⟨_,_,_,rfl,h1,h2⟩)))
 ·rename_i t n a y z
  obtain ⟨rfl,⟨h0,h1⟩,h2,h3⟩:=h
  obtain ⟨m,rfl⟩:=Int.eq_ofNat_of_zero_le (show 0≤n by omega)
  exact Or.inr (Or.inr (Or.inr (Or.inr ⟨m,_,_,_,rfl,by omega,by omega,h2,h3⟩)))
 ·exact h.elim
theorem UX.all {x:Item} (h:UX x) (e:∀ of,outX of x=outX 4 x) (e2:∀ of,depX of x=depX 4 x) (hne:outX 4 x≠[]):∀ of,of≤3→QX x of:=by
 have q3:QX x 3:=h.toP.toQ (by omega) (e 3) (e2 3) (by rw [e]; exact hne)
 have q2:QX x 2:=(q3.toP (by omega)).toQ (by omega) ((e 2).trans (e 3).symm) ((e2 2).trans (e2 3).symm) (by rw [e]; exact hne)
 have q1:QX x 1:=(q2.toP (by omega)).toQ (by omega) ((e 1).trans (e 2).symm) ((e2 1).trans (e2 2).symm) (by rw [e]; exact hne)
 have q0:QX x 0:=(q1.toP (by omega)).toQ (by omega) ((e 0).trans (e 1).symm) ((e2 0).trans (e2 1).symm) (by rw [e]; exact hne)
 intro of ho
 match of,ho with
 | 0,_=>exact q0
 | 1,_=>exact q1
 | 2,_=>exact q2
 | 3,_=>exact q3
theorem zx:∀ (N:Nat) (x:Item),sizeI x≤N→WX x→(∀ of,of≤3→QX x of)∧UX x:=by
 intro N
 induction N with
 | zero=>intro x h; have:=aW x; omega
 | succ N ih =>
  intro x hN hw
  rcases fV hw with ⟨n,a,rfl⟩ | ⟨t,a,rfl⟩ | ⟨t,a,y,rfl,hy⟩ | ⟨n,a,y,rfl,hn,hy⟩ | ⟨n,a,y,z,rfl,hn1,hn2,hy,hz⟩
  ·have hu:UX (.mk 17 [] n a []):=by
    intro d f as rest h1 h2 h3 h4
    obtain ⟨u,r,rfl,e1,e2⟩:=aC h1
    obtain rfl:r=[]:=by cases r with | nil=>rfl | cons _ _=>cases e2
    obtain ⟨g,rfl⟩:∃ g,f=g+2:=⟨f - 2,by simp at h4; omega⟩
    obtain ⟨k1,k2,k3⟩:=fF e1
    refine⟨.mk 17 [] n u.at' [],?_,rfl⟩
    unfold unS
    simp only [List.cons_append,List.nil_append,JS e1,Bool.false_eq_true,if_false]
    unfold cB
    rw [if_pos (by simpa [aj,nb] using k1)]
    simp only [jR,k3,nowAt,List.tail_cons]; rfl
   exact⟨hu.all (fun _=>rfl) (fun _=>rfl) (by simp [outX]),hu⟩
  ·have hu:UX (.mk 18 t 0 a []):=by
    intro d f as rest h1 h2 h3 h4
    obtain ⟨u,r,rfl,e1,e2⟩:=aC h1
    obtain rfl:r=[]:=by cases r with | nil=>rfl | cons _ _=>cases e2
    obtain ⟨g,rfl⟩:∃ g,f=g+2:=⟨f - 2,by simp at h4; omega⟩
    obtain ⟨k1,k2,k3⟩:=fF e1
    refine⟨.mk 18 t 0 u.at' [],?_,rfl⟩
    unfold unS
    simp only [List.cons_append,List.nil_append,xc e1,Bool.false_eq_true,if_false]
    unfold cB
    rw [if_neg (by simp [aj,k1,nm]),if_pos (by simpa [aj,nm] using k1),if_neg (by simp [h3])]
    simp only [bT,k2,nowAt,List.tail_cons]; rfl
   exact⟨hu.all (fun _=>rfl) (fun _=>rfl) (by simp [outX]),hu⟩
  ·have hs:sizeI y≤N:=by simp only [sizeI,sizeL] at hN; omega
   obtain ⟨iq,iu⟩:=ih y hs hy
   have hu:UX (.mk 19 t 0 a [y]):=by
    intro d f as rest h1 h2 h3 h4
    simp only [outX] at h1
    obtain ⟨u,r,rfl,e1,e2⟩:=aC h1
    obtain ⟨b,r,rfl,e3,e4⟩:=aC e2
    obtain ⟨ys,r,rfl,e5,e6⟩:=dR e4
    obtain ⟨c,r,rfl,e7,e8⟩:=aC e6
    obtain rfl:r=[]:=by cases r with | nil=>rfl | cons _ _=>cases e8
    simp only [List.length_cons,List.length_append,List.length_nil,depX] at h4 h2
    obtain ⟨g,rfl⟩:∃ g,f=g+2:=⟨f - 2,by omega⟩
    obtain ⟨k1,k2,k3⟩:=fF e1
    obtain ⟨x',p1,p2⟩:=(iq 1 (by omega)).toP (by omega) (d+1) g ys (c :: rest) e5 (by omega) (rz e7 1) (by simp only [List.length_cons]; omega)
    refine⟨.mk 19 t 0 u.at' [x'],?_,by simp [erase,av,p2]⟩
    unfold unS
    simp only [List.cons_append,List.append_assoc,List.nil_append,xc e1,Bool.false_eq_true,if_false]
    unfold cB
    rw [if_neg (by simp [aj,k1,nm]),if_pos (by simpa [aj,nm] using k1),if_pos (by simp only [List.tail_cons]; rw [dz e3]; rfl)]
    simp only [List.tail_cons,lL e3 (show d<64 by omega),p1,take_mk e7,bT,k2,nowAt]; rfl
   exact⟨hu.all (fun _=>rfl) (fun _=>rfl) (by simp [outX]),hu⟩
  ·have hs:sizeI y≤N:=by simp only [sizeI,sizeL] at hN; omega
   obtain ⟨iq,iu⟩:=ih y hs hy
   have hu:UX (.mk 20 [] n a [y]):=by
    intro d f as rest h1 h2 h3 h4
    simp only [outX] at h1
    obtain ⟨u,r,rfl,e1,e2⟩:=aC h1
    simp only [List.length_cons,depX] at h4 h2
    obtain ⟨g,rfl⟩:∃ g,f=g+1:=⟨f - 1,by omega⟩
    obtain ⟨x',p1,p2⟩:=iu (d+1) g r rest e2 (by omega) h3 (by omega)
    refine⟨.mk 20 [] n u.at' [x'],?_,by simp [erase,av,p2]⟩
    unfold unS
    rcases hn with rfl | rfl
    ·simp only [if_pos] at e1
     simp only [List.cons_append]
     rw [if_pos (by rw [dz e1]; rfl)]
     simp only [lL e1 (show d<64 by omega),p1,nowAt]
    ·rw [if_neg (by decide)] at e1
     simp only [List.cons_append]
     rw [if_neg (by rw [dz e1]; decide),if_pos (by rw [dz e1]; rfl)]
     simp only [lL e1 (show d<64 by omega),p1,nowAt]
   exact⟨hu.all (fun _=>rfl) (fun _=>rfl) (by simp [outX]),hu⟩
  ·have hsy:sizeI y≤N:=by simp only [sizeI,sizeL] at hN; omega
   have hsz:sizeI z≤N:=by simp only [sizeI,sizeL] at hN; omega
   obtain ⟨yq,_⟩:=ih y hsy hy
   obtain ⟨zq,zu⟩:=ih z hsz hz
   obtain ⟨l1,l3⟩:=kN n
   have zp:PX z (aA n+1):=by
    by_cases h3:aA n=3
    ·rw [h3]; exact zu.toP
    ·exact (zq _ (by omega)).toP (by omega)
   have qk:QX (.mk 21 [] n a [y,z]) (aA n):=by
    intro d f as rest h1 h2 h3 h4
    simp only [outX,depX,Int.toNat_natCast,Nat.lt_irrefl,if_false] at h1 h2
    obtain ⟨ys,r,rfl,e1,e2⟩:=dR h1
    obtain ⟨m,zs,rfl,e3,e4⟩:=aC e2
    simp only [List.length_append,List.length_cons] at h4
    obtain ⟨f',y',g1,g2,g3⟩:=yq (aA n) l3 d f ys (m :: (zs ++ rest)) e1 (by omega) (Ej hn1 hn2 e3 _) (by simp only [List.length_append,List.length_cons]; omega)
    simp only [List.length_append,List.length_cons] at g1
    obtain ⟨g,rfl⟩:∃ g,f'=g+1:=⟨f' - 1,by omega⟩
    obtain ⟨z',p1,p2⟩:=zp d g zs rest e4 (by omega) h3 (by omega)
    refine⟨g,.mk 21 [] n (nowAt (ys ++ m :: zs ++ rest)) [y',z'],by omega,?_,by simp [erase,av,g3,p2]⟩
    have hm:=zR hn1 hn2 e3 (zs ++ rest) (aA n)
    rw [if_pos rfl] at hm
    rw [List.append_assoc,List.cons_append,g2]
    conv=>lhs; unfold loopS
    rw [hm,if_neg (by omega)]
    simp only [List.tail_cons,p1]
   have eo:∀ of,of≤aA n→outX of (.mk 21 [] n a [y,z])=outX (aA n) (.mk 21 [] n a [y,z])∧depX of (.mk 21 [] n a [y,z])=depX (aA n) (.mk 21 [] n a [y,z]):=by
    intro of ho
    simp only [outX,depX,Int.toNat_natCast,Nat.lt_irrefl,if_false]
    rw [if_neg (by omega),if_neg (by omega)]
    exact⟨rfl,rfl⟩
   have hne:∀ of,outX of (.mk 21 [] n a [y,z])≠[]:=by
    intro of
    simp only [outX]
    split
    ·exact List.cons_ne_nil _ _
    ·intro h; have:=(List.append_eq_nil_iff.1 h).2; exact List.cons_ne_nil _ _ this
   have qlow:∀ j,j≤aA n→QX (.mk 21 [] n a [y,z]) (aA n - j):=by
    intro j
    induction j with
    | zero=>intro _; exact qk
    | succ j ihj =>
     intro hj
     have hq:=ihj (by omega)
     have e:aA n - j=aA n - (j+1)+1:=by omega
     rw [e] at hq
     have ea:=eo (aA n - (j+1)) (by omega)
     have eb:=eo (aA n - (j+1)+1) (by omega)
     exact (hq.toP (by omega)).toQ (by omega) (ea.1.trans eb.1.symm) (ea.2.trans eb.2.symm) (hne _)
   have ql:∀ of,of≤aA n→QX (.mk 21 [] n a [y,z]) of:=by
    intro of ho
    have:=qlow (aA n - of) (by omega)
    rwa [show aA n - (aA n - of)=of by omega] at this
   have eh:∀ of,aA n<of→outX of (.mk 21 [] n a [y,z])=mk4 [40] :: (outX 1 (.mk 21 [] n a [y,z]) ++ [mk4 [41]])∧depX of (.mk 21 [] n a [y,z])=depX 1 (.mk 21 [] n a [y,z])+1:=by
    intro of ho
    simp only [outX,depX,Int.toNat_natCast]
    rw [if_pos ho,if_pos ho,if_neg (by omega),if_neg (by omega)]
    simp
   have hu:UX (.mk 21 [] n a [y,z]):=by
    intro d f as rest h1 h2 h3 h4
    rw [(eh 4 (by omega)).1] at h1
    rw [(eh 4 (by omega)).2] at h2
    obtain ⟨u,r,rfl,e1,e2⟩:=aC h1
    obtain ⟨ys,r,rfl,e3,e4⟩:=dR e2
    obtain ⟨c,r,rfl,e5,e6⟩:=aC e4
    obtain rfl:r=[]:=by cases r with | nil=>rfl | cons _ _=>cases e6
    simp only [List.length_cons,List.length_append,List.length_nil] at h4
    obtain ⟨g,rfl⟩:∃ g,f=g+2:=⟨f - 2,by omega⟩
    obtain ⟨k1,k2,k3⟩:=fF e1
    obtain ⟨x',p1,p2⟩:=(ql 1 l1).toP (by omega) (d+1) g ys (c :: rest) e3 (by omega) (sJ e5 1) (by simp only [List.length_cons]; omega)
    refine⟨x',?_,p2⟩
    unfold unS
    simp only [List.cons_append,List.append_assoc,List.nil_append]
    rw [if_neg (by rw [dz e1]; decide),if_neg (by rw [dz e1]; decide)]
    unfold cB
    rw [if_neg (by simp [aj,k1,mk4]),if_neg (by simp [aj,k1,mk4])]
    simp only [lL e1 (show d<64 by omega),p1,take_mk e5]
   refine⟨fun of ho=>?_,hu⟩
   by_cases hle:of≤aA n
   ·exact ql of hle
   ·have q3:aA n<3→QX (.mk 21 [] n a [y,z]) 3:=fun h=>hu.toP.toQ (by omega) ((eh 3 h).1.trans (eh 4 (by omega)).1.symm) ((eh 3 h).2.trans (eh 4 (by omega)).2.symm) (hne _)
    have q2:aA n<2→QX (.mk 21 [] n a [y,z]) 2:=fun h=>((q3 (by omega)).toP (by omega)).toQ (by omega) ((eh 2 h).1.trans (eh 3 (by omega)).1.symm) ((eh 2 h).2.trans (eh 3 (by omega)).2.symm) (hne _)
    match of,ho,hle with
    | 0,_,h=>omega
    | 1,_,h=>omega
    | 2,_,h=>exact q2 (by omega)
    | 3,_,h=>exact q3 (by omega)
theorem pX {x:Item} (h:WX x) {d f:Nat} {as rest:List Tok} (h1:tks as=outX 1 x) (h2:d+depX 1 x≤64) (h3:Stop 1 rest) (h4:12*(as.length+rest.length)+7≤f) :
  ∃ x',binS f 1 d (as ++ rest)=.ok (x',rest)∧erase x'=erase x :=
 ((zx _ x (Nat.le_refl _) h).1 1 (by omega)).toP (by omega) d f as rest h1 h2 h3 (by omega)
end Go.Proofs.YtkkeocnnecegbaaGreatDoor
namespace Go.Proofs.YtkkeocnnecegbaaGreatDoor
def dD:Item→List UInt8
 | .mk _ t _ _ _=>t
def outA:Bool→List Item→List Tk
 | _,[]=>[]
 | first,x :: r=>(if first then [] else [mk4 [44]]) ++ (outX 1 x ++ outA false r)
def o9:List Item→Nat
 | []=>0
 | x :: r=>max (depX 1 x) (o9 r)
def WXs:List Item→Prop
 | []=>True
 | x :: r=>WX x∧WXs r
def di:Bool→List Item→List Tk
 | _,[]=>[]
 | first,x :: r=>(if first then [] else [mk4 [44]]) ++ (nm (dD x) :: di false r)
def WN (k:Nat):Item→Prop
 | .mk k' _ n _ ks=>k'=k∧n=0∧ks=[]
mutual
def outS:Item→List Tk
 | .mk 5 _ _ _ l=>mk4 [123] :: (dI l ++ [mk4 [125]])
 | .mk 6 t _ _ [x]=>wd [118,97,114] :: nm t :: mk4 [61] :: (outX 1 x ++ [mk4 [59]])
 | .mk 7 t _ _ [x]=>nm t :: mk4 [61] :: (outX 1 x ++ [mk4 [59]])
 | .mk 8 t _ _ [x,y]=>nm t :: mk4 [91] :: (outX 1 x ++ mk4 [93] :: mk4 [61] :: (outX 1 y ++ [mk4 [59]]))
 | .mk 9 _ _ _ [x,b]=>wd [105,102] :: (outX 1 x ++ outS b)
 | .mk 9 _ _ _ [x,b,c]=>wd [105,102] :: (outX 1 x ++ (outS b ++ wd [101,108,115,101] :: outS c))
 | .mk 10 _ _ _ [x,b]=>wd [102,111,114] :: (outX 1 x ++ outS b)
 | .mk 11 _ _ _ [x]=>wd [114,101,116,117,114,110] :: (outX 1 x ++ [mk4 [59]])
 | .mk 12 _ _ _ [x]=>wd [112,114,105,110,116] :: (outX 1 x ++ [mk4 [59]])
 | .mk 13 _ _ _ [x]=>wd [101,120,105,116] :: (outX 1 x ++ [mk4 [59]])
 | .mk 14 t _ _ []=>[wd [114,101,97,100],nm t,mk4 [59]]
 | .mk 15 t _ _ (c :: l)=>wd [99,97,108,108] :: nm t :: mk4 [61] :: nm (dD c) :: mk4 [40] :: (outA true l ++ [mk4 [41],mk4 [59]])
 | _=>[]
def dI:List Item→List Tk
 | []=>[]
 | x :: r=>outS x ++ dI r
end
mutual
def depS:Item→Nat
 | .mk 5 _ _ _ l=>oC l+1
 | .mk 8 _ _ _ [x,y]=>max (depX 1 x+1) (depX 1 y)
 | .mk 9 _ _ _ [x,b]=>max (depX 1 x) (depS b)
 | .mk 9 _ _ _ [x,b,c]=>max (depX 1 x) (max (depS b) (depS c))
 | .mk 10 _ _ _ [x,b]=>max (depX 1 x) (depS b)
 | .mk 15 _ _ _ (_ :: l)=>o9 l
 | .mk _ _ _ _ [x]=>depX 1 x
 | _=>0
def oC:List Item→Nat
 | []=>0
 | x :: r=>max (depS x) (oC r)
end
inductive WS:Bool→Item→Prop
 | block (a:Nat) (l:List Item):(∀ x∈l,WS true x)→WS false (.mk 5 [] 0 a l)
 | declare (t:List UInt8) (a:Nat) (x:Item):WX x→WS true (.mk 6 t 0 a [x])
 | assign (t:List UInt8) (a:Nat) (x:Item):WX x→WS true (.mk 7 t 0 a [x])
 | store (t:List UInt8) (a:Nat) (x y:Item):WX x→WX y→WS true (.mk 8 t 0 a [x,y])
 | if1 (a:Nat) (x b:Item):WX x→WS false b→WS true (.mk 9 [] 0 a [x,b])
 | if2 (a:Nat) (x b c:Item):WX x→WS false b→WS false c→WS true (.mk 9 [] 0 a [x,b,c])
 | for1 (a:Nat) (x b:Item):WX x→WS false b→WS true (.mk 10 [] 0 a [x,b])
 | ret (k a:Nat) (x:Item):k=11∨k=12∨k=13→WX x→WS true (.mk k [] 0 a [x])
 | read (t:List UInt8) (a:Nat):WS true (.mk 14 t 0 a [])
 | call (t:List UInt8) (a:Nat) (u:List UInt8) (b:Nat) (l:List Item):WXs l→WS true (.mk 15 t 0 a (.mk 16 u 0 b [] :: l))
theorem qf {x:Item} (h:WX x) (of:Nat):∃ t r,outX of x=t :: r∧(t.1=1∨t.1=3∨t=mk4 [40]∨t=mk4 [45]∨t=mk4 [33]):=by
 have:∀ (N:Nat) (x:Item),sizeI x≤N→WX x→∀ of,∃ t r,outX of x=t :: r∧(t.1=1∨t.1=3∨t=mk4 [40]∨t=mk4 [45]∨t=mk4 [33]):=by
  intro N
  induction N with
  | zero=>intro x h; have:=aW x; omega
  | succ N ih =>
   intro x hN hw of
   rcases fV hw with ⟨n,a,rfl⟩ | ⟨t,a,rfl⟩ | ⟨t,a,y,rfl,hy⟩ | ⟨n,a,y,rfl,hn,hy⟩ | ⟨n,a,y,z,rfl,hn1,hn2,hy,hz⟩
   ·exact⟨_,_,rfl,Or.inr (Or.inl rfl)⟩
   ·exact⟨_,_,rfl,Or.inl rfl⟩
   ·exact⟨_,_,rfl,Or.inl rfl⟩
   ·refine⟨_,_,rfl,?_⟩
    rcases hn with rfl | rfl
    ·exact Or.inr (Or.inr (Or.inr (Or.inl rfl)))
    ·exact Or.inr (Or.inr (Or.inr (Or.inr rfl)))
   ·have hsy:sizeI y≤N:=by simp only [sizeI,sizeL] at hN; omega
    obtain ⟨t,r,e1,e2⟩:=ih y hsy hy (aA n)
    simp only [outX,Int.toNat_natCast]
    split
    ·exact⟨_,_,rfl,Or.inr (Or.inr (Or.inl rfl))⟩
    ·rw [e1]; exact⟨t,_,rfl,e2⟩
 exact this _ x (Nat.le_refl _) h of
theorem Dh {x:Item} (h:WX x) {as rest:List Tok} (h1:tks as=outX 1 x) {y:List UInt8} (hy:y≠[40]∧y≠[45]∧y≠[33]):isT y (as ++ rest)=false:=by
 obtain ⟨t,r,e1,e2⟩:=qf h 1
 rw [e1] at h1
 obtain ⟨u,r',rfl,e3,e4⟩:=aC h1
 obtain ⟨k1,k2,k3⟩:=fF e3
 rcases e2 with e | e | rfl | rfl | rfl
 ·simp [isT,aj,k1,e]
 ·simp [isT,aj,k1,e]
 ·rw [List.cons_append,dz e3]; simp [hy.1.symm]
 ·rw [List.cons_append,dz e3]; simp [hy.2.1.symm]
 ·rw [List.cons_append,dz e3]; simp [hy.2.2.symm]
theorem iM {as:List Tok} {x:Tk} (h:tks as=[x]):∃ t,as=[t]∧tk t=x:=by
 obtain ⟨t,r,rfl,e1,e2⟩:=aC h
 obtain rfl:r=[]:=by cases r with | nil=>rfl | cons _ _=>cases e2
 exact⟨t,rfl,e1⟩
theorem mQ {x:Item} (h:WX x) {d f:Nat} {as rest:List Tok} (h1:tks as=outX 1 x ++ [mk4 [59]]) (h2:d+depX 1 x≤64) (h4:12*(as.length+rest.length)+7≤f) :
  ∃ x',bA f d (as ++ rest)=.ok (x',rest)∧erase x'=erase x:=by
 obtain ⟨ys,r,rfl,e1,e2⟩:=dR h1
 obtain ⟨c,rfl,e3⟩:=iM e2
 simp only [List.length_append,List.length_cons,List.length_nil] at h4
 obtain ⟨x',p1,p2⟩:=pX h (f:=f) (rest:=c :: rest) e1 h2 (Dq e3 1) (by simp only [List.length_cons]; omega)
 refine⟨x',?_,p2⟩
 unfold bA
 rw [List.append_assoc,List.cons_append,List.nil_append,p1]
 simp only [take_mk e3]
theorem vz:∀ (l:List Item) (first:Bool) (acc:List Item) (d f:Nat) (as:List Tok) (c:Tok) (rest:List Tok),WXs l→tks as=outA first l→tk c=mk4 [41]→d+o9 l≤64→12*(as.length+rest.length+1)+8≤f →
  ∃ l',argsS f d first acc (as ++ c :: rest)=.ok (acc ++ l',c :: rest)∧av l'=av l
 | [],first,acc,d,f,as,c,rest,hw,h1,hc,h2,h3=>by
  obtain rfl:as=[]:=by cases as with | nil=>rfl | cons _ _=>cases h1
  obtain ⟨g,rfl⟩:∃ g,f=g+1:=⟨f - 1,by omega⟩
  refine⟨[],?_,rfl⟩
  unfold argsS
  rw [List.nil_append,if_pos (by rw [dz hc]; rfl),List.append_nil]
 | x :: r,first,acc,d,f,as,c,rest,hw,h1,hc,h2,h3=>by
  obtain ⟨g,rfl⟩:∃ g,f=g+1:=⟨f - 1,by omega⟩
  simp only [outA] at h1
  simp only [o9] at h2
  obtain ⟨cs,bs,rfl,e1,e2⟩:=dR h1
  obtain ⟨ys,zs,rfl,e3,e4⟩:=dR e2
  simp only [List.length_append] at h3
  have hst:Stop 1 (zs ++ c :: rest):=by
   cases r with
   | nil =>
    obtain rfl:zs=[]:=by cases zs with | nil=>rfl | cons _ _=>cases e4
    exact sJ hc 1
   | cons x' r' =>
    simp only [outA,Bool.false_eq_true,if_false] at e4
    obtain ⟨t,r'',rfl,e5,e6⟩:=aC e4
    exact BR e5 1
  obtain ⟨x',p1,p2⟩:=pX hw.1 (d:=d) (f:=g) (rest:=zs ++ c :: rest) e3 (by omega) hst (by simp only [List.length_append,List.length_cons]; omega)
  obtain ⟨l',q1,q2⟩:=vz r false (acc ++ [x']) d g zs c rest hw.2 e4 hc (by omega) (by
   have:0<ys.length:=by
    obtain ⟨t,r',ee,_⟩:=qf hw.1 1
    rw [ee] at e3; obtain ⟨_,_,rfl,_,_⟩:=aC e3; simp
   omega)
  refine⟨x' :: l',?_,by simp [av,p2,q2]⟩
  have hn:isT [41] (cs ++ (ys ++ zs) ++ c :: rest)=false:=by
   cases first
   ·obtain ⟨t,rfl,e5⟩:=iM e1
    rw [List.append_assoc,List.cons_append,dz e5]; rfl
   ·obtain rfl:cs=[]:=by cases cs with | nil=>rfl | cons _ _=>cases e1
    rw [List.nil_append,List.append_assoc]
    exact Dh hw.1 e3 (by decide)
  have ht:(if first then .ok (cs ++ (ys ++ zs) ++ c :: rest) else af [44] (cs ++ (ys ++ zs) ++ c :: rest))=(.ok (ys ++ (zs ++ c :: rest)):Except aY (List Tok)):=by
   cases first
   ·obtain ⟨t,rfl,e5⟩:=iM e1
    simp only [List.append_assoc,List.cons_append,List.nil_append,Bool.false_eq_true,if_false]
    exact take_mk e5 _
   ·obtain rfl:cs=[]:=by cases cs with | nil=>rfl | cons _ _=>cases e1
    simp
  unfold argsS
  rw [if_neg (by rw [hn]; simp),ht]
  simp only [p1,q1,List.append_assoc,List.cons_append,List.nil_append]
theorem uy:∀ (l:List Item) (first:Bool) (acc:List Item) (f:Nat) (as:List Tok) (c:Tok) (rest:List Tok),(∀ x∈l,WN 4 x)→tks as=di first l→tk c=mk4 [41]→as.length+1≤f →
  ∃ l',parsS f first acc (as ++ c :: rest)=.ok (acc ++ l',c :: rest)∧av l'=av l
 | [],first,acc,f,as,c,rest,hw,h1,hc,h3=>by
  obtain rfl:as=[]:=by cases as with | nil=>rfl | cons _ _=>cases h1
  obtain ⟨g,rfl⟩:∃ g,f=g+1:=⟨f - 1,by omega⟩
  refine⟨[],?_,rfl⟩
  unfold parsS
  rw [List.nil_append,if_pos (by rw [dz hc]; rfl),List.append_nil]
 | x :: r,first,acc,f,as,c,rest,hw,h1,hc,h3=>by
  obtain ⟨g,rfl⟩:∃ g,f=g+1:=⟨f - 1,by omega⟩
  simp only [di] at h1
  obtain ⟨cs,bs,rfl,e1,e2⟩:=dR h1
  obtain ⟨y,zs,rfl,e3,e4⟩:=aC e2
  simp only [List.length_append,List.length_cons] at h3
  obtain ⟨l',q1,q2⟩:=uy r false (acc ++ [.mk 4 (dD x) 0 y.at' []]) g zs c rest (fun z hz=>hw z (by simp [hz])) e4 hc (by omega)
  have hx:=hw x (by simp)
  refine⟨.mk 4 (dD x) 0 y.at' [] :: l',?_,?_⟩
  ·have hn:isT [41] (cs ++ y :: zs ++ c :: rest)=false:=by
    cases first
    ·obtain ⟨t,rfl,e5⟩:=iM e1
     rw [List.append_assoc,List.cons_append,dz e5]; rfl
    ·obtain rfl:cs=[]:=by cases cs with | nil=>rfl | cons _ _=>cases e1
     rw [List.nil_append,List.cons_append,xc e3]
   have ht:(if first then .ok (cs ++ y :: zs ++ c :: rest) else af [44] (cs ++ y :: zs ++ c :: rest))=(.ok (y :: (zs ++ c :: rest)):Except aY (List Tok)):=by
    cases first
    ·obtain ⟨t,rfl,e5⟩:=iM e1
     simp only [List.cons_append,List.nil_append,Bool.false_eq_true,if_false]
     first | exact take_mk e5 _ | (simp only [List.append_assoc]; exact take_mk e5 _)
    ·obtain rfl:cs=[]:=by cases cs with | nil=>rfl | cons _ _=>cases e1
     simp
   unfold parsS
   rw [if_neg (by rw [hn]; simp),ht]
   simp only [jh e3,nowAt,q1,List.append_assoc,List.cons_append,List.nil_append]
  ·obtain ⟨k,t,n,a,ks⟩:=x
   obtain ⟨rfl,rfl,rfl⟩:=hx
   simp [av,erase,q2,dD]
theorem gK {t:Tok} {x:List UInt8} (h:tk t=wd x) (r:List Tok):aG (t :: r)=(dn.lookup x).getD 0:=by
 obtain ⟨h1,h2,_⟩:=fF h
 unfold aG
 rw [if_pos (by simpa [aj,wd] using h1)]
 simp only [bT,h2,wd]
theorem qF {t:Tok} {x:List UInt8} (h:tk t=nm x) (r:List Tok):aG (t :: r)=0:=by
 obtain ⟨h1,h2,_⟩:=fF h
 unfold aG
 rw [if_neg (by simp [aj,h1,nm])]
theorem Bg {x:Item} (h:WS true x):∃ t r,outS x=t :: r∧(t.1=1∨∃ w,t=wd w∧w≠[101,108,115,101]):=by
 cases h with
 | declare=>exact⟨_,_,by rw [outS],Or.inr ⟨_,rfl,by decide⟩⟩
 | assign=>exact⟨_,_,by rw [outS],Or.inl rfl⟩
 | store=>exact⟨_,_,by rw [outS],Or.inl rfl⟩
 | if1=>exact⟨_,_,by rw [outS],Or.inr ⟨_,rfl,by decide⟩⟩
 | if2=>exact⟨_,_,by rw [outS],Or.inr ⟨_,rfl,by decide⟩⟩
 | for1=>exact⟨_,_,by rw [outS],Or.inr ⟨_,rfl,by decide⟩⟩
 | ret k a x hk =>
  rcases hk with rfl | rfl | rfl
  ·exact⟨_,_,by rw [outS],Or.inr ⟨_,rfl,by decide⟩⟩
  ·exact⟨_,_,by rw [outS],Or.inr ⟨_,rfl,by decide⟩⟩
  ·exact⟨_,_,by rw [outS],Or.inr ⟨_,rfl,by decide⟩⟩
 | read=>exact⟨_,_,by rw [outS],Or.inr ⟨_,rfl,by decide⟩⟩
 | call=>exact⟨_,_,by rw [outS],Or.inr ⟨_,rfl,by decide⟩⟩
theorem qM {x:Item} (h:WS true x) {as rest:List Tok} (h1:tks as=outS x):isT [101,108,115,101] (as ++ rest)=false∧(∀ y w,(w :: y:List UInt8).length=1→(∀ z v,outS x=wd z :: v→z≠w :: y)→isT (w :: y) (as ++ rest)=false)∧as≠[]:=by
 obtain ⟨t,r,e1,e2⟩:=Bg h
 rw [e1] at h1
 obtain ⟨u,r',rfl,e3,e4⟩:=aC h1
 obtain ⟨k1,k2,k3⟩:=fF e3
 refine⟨?_,?_,by simp⟩
 ·rcases e2 with e | ⟨w,rfl,hw⟩
  ·simp [isT,aj,k1,e]
  ·rw [List.cons_append,nQ e3]; simp [hw]
 ·intro y w hl hz
  rcases e2 with e | ⟨w',rfl,hw⟩
  ·simp [isT,aj,k1,e]
  ·rw [List.cons_append,nQ e3]; simp [hz _ _ e1]
theorem tu {x:Item} (h:WS true x) {as rest:List Tok} (h1:tks as=outS x):isT [125] (as ++ rest)=false:=by
 refine (qM h h1).2.1 [] 125 rfl (fun z v e=>?_)
 cases h with
 | ret k a x hk =>
  rcases hk with rfl | rfl | rfl <;> (rw [outS] at e; injection e with e _; injection e with _ e; injection e with e _; subst e; decide)
 | assign=>rw [outS] at e; injection e with e _; injection e with e _; cases e
 | store=>rw [outS] at e; injection e with e _; injection e with e _; cases e
 | _=>rw [outS] at e; injection e with e _; injection e with _ e; injection e with e _; subst e; decide
def RB (x:Item):Prop:=∀ (d f:Nat) (as rest:List Tok),tks as=outS x→d+depS x≤64→12*(as.length+rest.length)+10≤f →
 ∃ x',aH f d (as ++ rest)=.ok (x',rest)∧erase x'=erase x
def RS (x:Item):Prop:=∀ (d f:Nat) (as rest:List Tok),tks as=outS x→d+depS x≤64→isT [101,108,115,101] rest=false→12*(as.length+rest.length)+10≤f →
 ∃ x',aZ f d (as ++ rest)=.ok (x',rest)∧erase x'=erase x
theorem rG:∀ (l:List Item) (acc:List Item) (d f:Nat) (as:List Tok) (c:Tok) (rest:List Tok),(∀ x∈l,WS true x∧RS x)→tks as=dI l→tk c=mk4 [125]→d+oC l≤64→12*(as.length+rest.length+1)+12≤f →
  ∃ l',stmtsS f d acc (as ++ c :: rest)=.ok (acc ++ l',c :: rest)∧av l'=av l
 | [],acc,d,f,as,c,rest,hw,h1,hc,h2,h3=>by
  obtain rfl:as=[]:=by cases as with | nil=>rfl | cons _ _=>cases h1
  obtain ⟨g,rfl⟩:∃ g,f=g+1:=⟨f - 1,by omega⟩
  refine⟨[],?_,rfl⟩
  unfold stmtsS
  rw [List.nil_append,if_pos (by rw [dz hc]; rfl),List.append_nil]
 | x :: r,acc,d,f,as,c,rest,hw,h1,hc,h2,h3=>by
  obtain ⟨g,rfl⟩:∃ g,f=g+1:=⟨f - 1,by omega⟩
  simp only [dI] at h1
  simp only [oC] at h2
  obtain ⟨ys,zs,rfl,e1,e2⟩:=dR h1
  simp only [List.length_append] at h3
  obtain ⟨hx,hr⟩:=hw x (by simp)
  have hst:isT [101,108,115,101] (zs ++ c :: rest)=false:=by
   cases r with
   | nil =>
    obtain rfl:zs=[]:=by cases zs with | nil=>rfl | cons _ _=>cases e2
    rw [List.nil_append,dz hc]; rfl
   | cons x' r' =>
    simp only [dI] at e2
    obtain ⟨ys',zs',rfl,e3,_⟩:=dR e2
    rw [List.append_assoc]
    exact (qM (hw x' (by simp)).1 e3).1
  obtain ⟨x',p1,p2⟩:=hr d g ys (zs ++ c :: rest) e1 (by omega) hst (by simp only [List.length_append,List.length_cons]; omega)
  obtain ⟨l',q1,q2⟩:=rG r (acc ++ [x']) d g zs c rest (fun z hz=>hw z (by simp [hz])) e2 hc (by omega) (by
   have:=List.length_pos_iff.2 (qM (rest:=[]) hx e1).2.2
   omega)
  refine⟨x' :: l',?_,by simp [av,p2,q2]⟩
  unfold stmtsS
  rw [List.append_assoc,if_neg (by rw [tu hx e1]; simp)]
  simp only [p1,q1,List.append_assoc,List.cons_append,List.nil_append]
theorem kI {x:Item} (h:WS false x) {as rest:List Tok} (h1:tks as=outS x):Stop 1 (as ++ rest)∧isT [101,108,115,101] (as ++ rest)=false∧as≠[]:=by
 cases h with
 | block a l hl =>
  rw [outS] at h1
  obtain ⟨u,r',rfl,e3,e4⟩:=aC h1
  refine⟨Cq e3 1,by rw [List.cons_append,dz e3]; rfl,by simp⟩
theorem iR {x:Item} {l:List Item} (h:x∈l):sizeI x≤sizeL l:=by
 induction l with
 | nil=>cases h
 | cons y r ih =>
  simp only [sizeL]
  rcases List.mem_cons.1 h with rfl | h
  ·omega
  ·have:=ih h; omega
theorem zH:∀ (N:Nat) (x:Item),sizeI x≤N→(WS false x→RB x)∧(WS true x→RS x):=by
 intro N
 induction N with
 | zero=>intro x h; have:=aW x; omega
 | succ N ih =>
  intro x hN
  constructor
  ·intro hw
   cases hw with
   | block a l hl =>
    intro d f as rest h1 h2 h3
    rw [outS] at h1
    simp only [sizeI] at hN
    obtain ⟨u,r,rfl,e1,e2⟩:=aC h1
    obtain ⟨ys,r,rfl,e3,e4⟩:=dR e2
    obtain ⟨c,rfl,e5⟩:=iM e4
    simp only [List.length_append,List.length_cons,List.length_nil] at h3
    rw [depS] at h2
    obtain ⟨g,rfl⟩:∃ g,f=g+1:=⟨f - 1,by omega⟩
    obtain ⟨l',q1,q2⟩:=rG l [] (d+1) g ys c rest (fun y hy=>⟨hl y hy,(ih y (by have:=iR hy; omega)).2 (hl y hy)⟩) e3 e5 (by omega) (by omega)
    refine⟨.mk 5 [] 0 u.at' l',?_,by simp [erase,q2]⟩
    unfold aH
    simp only [List.cons_append,List.append_assoc,List.nil_append] at q1 ⊢
    rw [lL e1 (by omega)]
    simp only [q1,take_mk e5,nowAt]
  ·intro hw
   intro d f as rest h1 h2 h0 h3
   cases hw with
   | declare t a x hx =>
    rw [outS] at h1
    obtain ⟨u,r,rfl,e1,e2⟩:=aC h1
    obtain ⟨v,r,rfl,e3,e4⟩:=aC e2
    obtain ⟨w,r,rfl,e5,e6⟩:=aC e4
    simp only [List.length_cons] at h3
    rw [depS] at h2
    ·obtain ⟨g,rfl⟩:∃ g,f=g+1:=⟨f - 1,by omega⟩
     obtain ⟨x',p1,p2⟩:=mQ hx (d:=d) (f:=g) (rest:=rest) e6 h2 (by omega)
     refine⟨.mk 6 t 0 u.at' [x'],?_,by simp [erase,av,p2]⟩
     unfold aZ
     simp only [List.cons_append,gK e1]
     simp [dn,bS,jh e3,take_mk e5,p1,nowAt]
    all_goals (intros; first | simp | (intro h; cases h) | omega | trivial)
   | assign t a x hx =>
    rw [outS] at h1
    obtain ⟨u,r,rfl,e1,e2⟩:=aC h1
    obtain ⟨w,r,rfl,e5,e6⟩:=aC e2
    simp only [List.length_cons] at h3
    rw [depS] at h2
    ·obtain ⟨g,rfl⟩:∃ g,f=g+1:=⟨f - 1,by omega⟩
     obtain ⟨x',p1,p2⟩:=mQ hx (d:=d) (f:=g) (rest:=rest) e6 h2 (by omega)
     refine⟨.mk 7 t 0 u.at' [x'],?_,by simp [erase,av,p2]⟩
     unfold aZ
     simp only [List.cons_append,qF e1,if_true]
     simp [bH,jh e1,dz e5,take_mk e5,p1,nowAt]
    all_goals (intros; first | simp | (intro h; cases h) | omega | trivial)
   | store t a x y hx hy =>
    rw [outS] at h1
    obtain ⟨u,r,rfl,e1,e2⟩:=aC h1
    obtain ⟨w,r,rfl,e5,e6⟩:=aC e2
    obtain ⟨ys,r,rfl,e7,e8⟩:=dR e6
    obtain ⟨c,r,rfl,e9,e10⟩:=aC e8
    obtain ⟨q,r,rfl,e11,e12⟩:=aC e10
    simp only [List.length_cons,List.length_append] at h3
    rw [depS] at h2
    obtain ⟨g,rfl⟩:∃ g,f=g+1:=⟨f - 1,by omega⟩
    obtain ⟨x',p1,p2⟩:=pX hx (d:=d+1) (f:=g) (rest:=c :: q :: (r ++ rest)) e7 (by omega) (rz e9 1) (by simp only [List.length_append,List.length_cons]; omega)
    obtain ⟨y',p3,p4⟩:=mQ hy (d:=d) (f:=g) (rest:=rest) e12 (by omega) (by omega)
    refine⟨.mk 8 t 0 u.at' [x',y'],?_,by simp [erase,av,p2,p4]⟩
    unfold aZ
    simp only [List.cons_append,List.append_assoc,qF e1,if_true]
    have ho:aR [91] d (w :: (ys ++ c :: q :: (r ++ rest)))=.ok (ys ++ c :: q :: (r ++ rest)):=lL e5 (by omega) _
    simp [bH,jh e1,dz e5,ho,p1,take_mk e9,take_mk e11,p3,nowAt]
   | if1 a x b hx hb =>
    rw [outS] at h1
    obtain ⟨u,r,rfl,e1,e2⟩:=aC h1
    obtain ⟨ys,zs,rfl,e3,e4⟩:=dR e2
    simp only [List.length_cons,List.length_append] at h3
    simp only [sizeI,sizeL] at hN
    rw [depS] at h2
    obtain ⟨g,rfl⟩:∃ g,f=g+2:=⟨f - 2,by omega⟩
    obtain ⟨w1,w2,w3⟩:=kI hb (rest:=rest) e4
    obtain ⟨x',p1,p2⟩:=pX hx (d:=d) (f:=g) (rest:=zs ++ rest) e3 (by omega) w1 (by simp only [List.length_append]; omega)
    have hpos:0<ys.length:=by
     obtain ⟨t,r',ee,_⟩:=qf hx 1
     rw [ee] at e3; obtain ⟨_,_,rfl,_,_⟩:=aC e3; simp
    obtain ⟨b',p3,p4⟩:=(ih b (by omega)).1 hb d g zs rest e4 (by omega) (by omega)
    refine⟨.mk 9 [] 0 u.at' [x',b'],?_,by simp [erase,av,p2,p4]⟩
    unfold aZ
    simp only [List.cons_append,gK e1]
    simp [dn,List.lookup,bI,p1,p3,h0,nowAt]
   | if2 a x b c hx hb hc =>
    rw [outS] at h1
    obtain ⟨u,r,rfl,e1,e2⟩:=aC h1
    obtain ⟨ys,r,rfl,e3,e4⟩:=dR e2
    obtain ⟨zs,r,rfl,e5,e6⟩:=dR e4
    obtain ⟨v,cs,rfl,e7,e8⟩:=aC e6
    simp only [List.length_cons,List.length_append] at h3
    simp only [sizeI,sizeL] at hN
    rw [depS] at h2
    obtain ⟨g,rfl⟩:∃ g,f=g+2:=⟨f - 2,by omega⟩
    obtain ⟨w1,w2,w3⟩:=kI hb (rest:=v :: (cs ++ rest)) e5
    obtain ⟨x',p1,p2⟩:=pX hx (d:=d) (f:=g) (rest:=zs ++ v :: (cs ++ rest)) e3 (by omega) w1 (by simp only [List.length_append,List.length_cons]; omega)
    obtain ⟨b',p3,p4⟩:=(ih b (by omega)).1 hb d g zs (v :: (cs ++ rest)) e5 (by omega) (by simp only [List.length_append,List.length_cons]; omega)
    obtain ⟨c',p5,p6⟩:=(ih c (by omega)).1 hc d g cs rest e8 (by omega) (by omega)
    refine⟨.mk 9 [] 0 u.at' [x',b',c'],?_,by simp [erase,av,p2,p4,p6]⟩
    unfold aZ
    simp only [List.cons_append,List.append_assoc,gK e1]
    simp [dn,List.lookup,bI,p1,p3,nQ e7,p5,nowAt]
   | for1 a x b hx hb =>
    rw [outS] at h1
    obtain ⟨u,r,rfl,e1,e2⟩:=aC h1
    obtain ⟨ys,zs,rfl,e3,e4⟩:=dR e2
    simp only [List.length_cons,List.length_append] at h3
    simp only [sizeI,sizeL] at hN
    rw [depS] at h2
    obtain ⟨g,rfl⟩:∃ g,f=g+2:=⟨f - 2,by omega⟩
    obtain ⟨w1,w2,w3⟩:=kI hb (rest:=rest) e4
    obtain ⟨x',p1,p2⟩:=pX hx (d:=d) (f:=g) (rest:=zs ++ rest) e3 (by omega) w1 (by simp only [List.length_append]; omega)
    have hpos:0<ys.length:=by
     obtain ⟨t,r',ee,_⟩:=qf hx 1
     rw [ee] at e3; obtain ⟨_,_,rfl,_,_⟩:=aC e3; simp
    obtain ⟨b',p3,p4⟩:=(ih b (by omega)).1 hb d g zs rest e4 (by omega) (by omega)
    refine⟨.mk 10 [] 0 u.at' [x',b'],?_,by simp [erase,av,p2,p4]⟩
    unfold aZ
    simp only [List.cons_append,gK e1]
    simp [dn,List.lookup,fw,p1,p3,nowAt]
   | ret k a x hk hx =>
    have hk':depS (.mk k [] 0 a [x])=depX 1 x:=by rcases hk with rfl | rfl | rfl <;> (rw [depS] <;> (intros; first | simp | (intro h; cases h) | omega | trivial))
    have hx1:∃ w,outS (.mk k [] 0 a [x])=wd w :: (outX 1 x ++ [mk4 [59]])∧dn.lookup w=some k:=by
     rcases hk with rfl | rfl | rfl
     ·exact⟨_,by rw [outS],rfl⟩
     ·exact⟨_,by rw [outS],rfl⟩
     ·exact⟨_,by rw [outS],rfl⟩
    obtain ⟨w,hw1,hw2⟩:=hx1
    rw [hw1] at h1
    rw [hk'] at h2
    obtain ⟨u,r,rfl,e1,e2⟩:=aC h1
    simp only [List.length_cons] at h3
    obtain ⟨g,rfl⟩:∃ g,f=g+1:=⟨f - 1,by omega⟩
    obtain ⟨x',p1,p2⟩:=mQ hx (d:=d) (f:=g) (rest:=rest) e2 h2 (by omega)
    refine⟨.mk k [] 0 u.at' [x'],?_,by simp [erase,av,p2]⟩
    unfold aZ
    simp only [List.cons_append,gK e1,hw2]
    rcases hk with rfl | rfl | rfl <;> simp [p1,nowAt]
   | read t a =>
    rw [outS] at h1
    obtain ⟨u,r,rfl,e1,e2⟩:=aC h1
    obtain ⟨v,r,rfl,e3,e4⟩:=aC e2
    obtain ⟨c,rfl,e5⟩:=iM e4
    simp only [List.length_cons] at h3
    obtain ⟨g,rfl⟩:∃ g,f=g+1:=⟨f - 1,by omega⟩
    refine⟨.mk 14 t 0 u.at' [],?_,by simp [erase]⟩
    unfold aZ
    simp only [List.cons_append,List.nil_append,gK e1]
    simp [dn,List.lookup,fC,jh e3,take_mk e5,nowAt]
   | call t a n b l hl =>
    rw [outS] at h1
    obtain ⟨u,r,rfl,e1,e2⟩:=aC h1
    obtain ⟨v,r,rfl,e3,e4⟩:=aC e2
    obtain ⟨w,r,rfl,e5,e6⟩:=aC e4
    obtain ⟨q,r,rfl,e7,e8⟩:=aC e6
    obtain ⟨p,r,rfl,e9,e10⟩:=aC e8
    obtain ⟨ys,r,rfl,e11,e12⟩:=dR e10
    obtain ⟨c,r,rfl,e13,e14⟩:=aC e12
    obtain ⟨s,rfl,e15⟩:=iM e14
    simp only [List.length_cons,List.length_append,List.length_nil] at h3
    simp only [dD] at e7
    rw [depS] at h2
    obtain ⟨g,rfl⟩:∃ g,f=g+1:=⟨f - 1,by omega⟩
    obtain ⟨l',p1,p2⟩:=vz l true [] d g ys c (s :: rest) hl e11 e13 h2 (by simp only [List.length_cons]; omega)
    refine⟨.mk 15 t 0 u.at' (.mk 16 n 0 q.at' [] :: l'),?_,by simp [erase,av,p2]⟩
    unfold aZ
    simp only [List.cons_append,List.append_assoc,List.nil_append,gK e1]
    simp only [List.nil_append] at p1
    simp [dn,List.lookup,callS,jh e3,take_mk e5,jh e7,take_mk e9,p1,take_mk e13,take_mk e15,nowAt]
inductive WD:Item→Prop
 | array (t:List UInt8) (n:Int) (a:Nat):WD (.mk 2 t n a [])
 | func (t:List UInt8) (a:Nat) (l:List Item) (b:Item):(∀ x∈l,WN 4 x)→WS false b→WD (.mk 3 t 0 a (l ++ [b]))
def outD:Item→List Tk
 | .mk 2 t n _ _=>[wd [118,97,114],nm t,mk4 [91],nb n,mk4 [93],mk4 [59]]
 | .mk 3 t _ _ ks=>wd [102,117,110,99] :: nm t :: mk4 [40] :: (di true ks.dropLast ++ mk4 [41] :: (match ks.getLast? with | some b=>outS b | none=>[]))
 | _=>[]
def depD:Item→Nat
 | .mk 3 _ _ _ ks=>match ks.getLast? with | some b=>depS b | none=>0
 | _=>0
def cZ:List Item→List Tk
 | []=>[]
 | x :: r=>outD x ++ cZ r
def mV:List Item→Nat
 | []=>0
 | x :: r=>max (depD x) (mV r)
theorem AX {t:List UInt8} {n:Int} {a:Nat} {as rest:List Tok} (h1:tks as=outD (.mk 2 t n a [])) :
  ∃ x',dO (as ++ rest)=.ok (x',rest)∧erase x'=erase (.mk 2 t n a []):=by
 simp only [outD] at h1
 obtain ⟨u,r,rfl,e1,e2⟩:=aC h1
 obtain ⟨v,r,rfl,e3,e4⟩:=aC e2
 obtain ⟨w,r,rfl,e5,e6⟩:=aC e4
 obtain ⟨q,r,rfl,e7,e8⟩:=aC e6
 obtain ⟨p,r,rfl,e9,e10⟩:=aC e8
 obtain ⟨s,rfl,e11⟩:=iM e10
 obtain ⟨k1,k2,k3⟩:=fF e7
 refine⟨.mk 2 t n u.at' [],?_,rfl⟩
 have hk:aj (q :: p :: s :: rest)=3:=by simpa [aj,nb] using k1
 unfold dO
 simp only [List.cons_append,List.nil_append,zW e1,jh e3,take_mk e5,hk,if_true,List.tail_cons,take_mk e9,take_mk e11,nowAt,jR,k3]
 rfl
theorem D8 {t:List UInt8} {a:Nat} {l:List Item} {b:Item} {f:Nat} {as rest:List Tok} (hl:∀ x∈l,WN 4 x) (hb:WS false b) (h1:tks as=outD (.mk 3 t 0 a (l ++ [b]))) (h2:depD (.mk 3 t 0 a (l ++ [b]))≤64) (h3:12*(as.length+rest.length)+10≤f) :
  ∃ x',dU f (as ++ rest)=.ok (x',rest)∧erase x'=erase (.mk 3 t 0 a (l ++ [b])):=by
 simp only [outD,List.dropLast_concat,List.getLast?_concat] at h1
 simp only [depD,List.getLast?_concat] at h2
 obtain ⟨u,r,rfl,e1,e2⟩:=aC h1
 obtain ⟨v,r,rfl,e3,e4⟩:=aC e2
 obtain ⟨w,r,rfl,e5,e6⟩:=aC e4
 obtain ⟨ps,r,rfl,e7,e8⟩:=dR e6
 obtain ⟨c,bs,rfl,e9,e10⟩:=aC e8
 simp only [List.length_cons,List.length_append] at h3
 obtain ⟨l',p1,p2⟩:=uy l true [] f ps c (bs ++ rest) hl e7 e9 (by omega)
 obtain ⟨b',p3,p4⟩:=(zH _ b (Nat.le_refl _)).1 hb 0 f bs rest e10 (by omega) (by omega)
 have ea:∀ (x y:List Item),av (x ++ y)=av x ++ av y:=by
  intro x y
  induction x with
  | nil=>rfl
  | cons z r ih=>simp [av,ih]
 refine⟨.mk 3 t 0 u.at' (l' ++ [b']),?_,by simp [erase,ea,p2,p4,av]⟩
 simp only [List.nil_append] at p1
 unfold dU
 simp only [List.cons_append,List.append_assoc,zW e1,jh e3,take_mk e5,p1,take_mk e9,p3,nowAt]
theorem vU (x y:List Item):av (x ++ y)=av x ++ av y:=by
 induction x with
 | nil=>rfl
 | cons z r ih=>simp [av,ih]
theorem rT:∀ (l:List Item) (acc:List Item) (f:Nat) (as:List Tok) (c:Tok),(∀ x∈l,WD x)→tks as=cZ l→c.kind=5→mV l≤64→12*(as.length+1)+12≤f →
  ∃ l',partsS f acc (as ++ [c])=.ok (acc ++ l')∧av l'=av l
 | [],acc,f,as,c,hw,h1,hc,h2,h3=>by
  obtain rfl:as=[]:=by cases as with | nil=>rfl | cons _ _=>cases h1
  obtain ⟨g,rfl⟩:∃ g,f=g+1:=⟨f - 1,by omega⟩
  refine⟨[],?_,rfl⟩
  unfold partsS
  rw [List.nil_append,if_pos (by simpa [aj] using hc),List.append_nil]
 | x :: r,acc,f,as,c,hw,h1,hc,h2,h3=>by
  obtain ⟨g,rfl⟩:∃ g,f=g+1:=⟨f - 1,by omega⟩
  simp only [cZ] at h1
  simp only [mV] at h2
  obtain ⟨ys,zs,rfl,e1,e2⟩:=dR h1
  simp only [List.length_append] at h3
  have hx:=hw x (by simp)
  have hd:∃ x',(if isT [118,97,114] (ys ++ (zs ++ [c]))=true then dO (ys ++ (zs ++ [c])) else dU g (ys ++ (zs ++ [c])))=.ok (x',zs ++ [c])∧erase x'=erase x∧aj (ys ++ (zs ++ [c]))≠5∧0<ys.length:=by
   cases hx with
   | array t n a =>
    obtain ⟨x',p1,p2⟩:=AX (rest:=zs ++ [c]) e1
    simp only [outD] at e1
    obtain ⟨u,r,rfl,e3,e4⟩:=aC e1
    refine⟨x',?_,p2,?_,by simp⟩
    ·rw [if_pos (by rw [List.cons_append,nQ e3]; rfl)]; exact p1
    ·simp [aj,(fF e3).1,wd]
   | func t a l b hl hb =>
    obtain ⟨x',p1,p2⟩:=D8 (f:=g) (rest:=zs ++ [c]) hl hb e1 (by omega) (by
     have:0<ys.length:=by
      simp only [outD] at e1
      obtain ⟨_,_,rfl,_,_⟩:=aC e1; simp
     simp only [List.length_append,List.length_cons,List.length_nil]; omega)
    simp only [outD] at e1
    obtain ⟨u,r,rfl,e3,e4⟩:=aC e1
    refine⟨x',?_,p2,?_,by simp⟩
    ·rw [if_neg (by rw [List.cons_append,nQ e3]; decide)]; exact p1
    ·simp [aj,(fF e3).1,wd]
  obtain ⟨x',p1,p2,p3,p4⟩:=hd
  obtain ⟨l',q1,q2⟩:=rT r (acc ++ [x']) g zs c (fun z hz=>hw z (by simp [hz])) e2 hc (by omega) (by omega)
  refine⟨x' :: l',?_,by simp [av,p2,q2]⟩
  unfold partsS
  rw [List.append_assoc,if_neg p3,p1]
  simp only [q1,List.append_assoc,List.cons_append,List.nil_append]
def WP:Item→Prop
 | .mk k t n _ l=>k=1∧t=[]∧n=0∧∀ x∈l,WD x
def gM:Item→List Tk
 | .mk _ _ _ _ l=>cZ l
def Bp:Item→Nat
 | .mk _ _ _ _ l=>mV l
theorem back {x:Item} (h:WP x) {as:List Tok} {c:Tok} (h1:tks as=gM x) (hc:c.kind=5) (h2:Bp x≤64) :
  ∃ x',progS (as ++ [c])=.ok x'∧erase x'=erase x:=by
 obtain ⟨k,t,n,a,l⟩:=x
 obtain ⟨rfl,rfl,rfl,hl⟩:=h
 obtain ⟨l',p1,p2⟩:=rT l [] (16*(as ++ [c]).length+16) as c hl h1 hc h2 (by simp; omega)
 refine⟨.mk 1 [] 0 (nowAt (as ++ [c])) l',?_,by simp [erase,p2]⟩
 unfold progS
 rw [p1,List.nil_append]
end Go.Proofs.YtkkeocnnecegbaaGreatDoor
namespace Go.Proofs.YtkkeocnnecegbaaGreatDoor
def gX (l:List UInt8):Bool:=match l with
 | []=>false
 | c :: r=>isLet c && !gZ (c :: r) && aQ (fun c=>isLet c || aU c) (c :: r) == (c :: r).length
def TG (t:Tok):Prop:=(t.kind=1∧t.n=0∧gX t.text=true)∨(t.kind=2∧t.n=0)∨(t.kind=3∧t.text=Lib.itoa t.n∧0≤t.n∧t.n≤2147483647)∨(t.kind=4∧t.n=0)∨(t.kind=5∧t.n=0)
def TGs (ts:List Tok):Prop:=∀ t∈ts,TG t
def named (k:Nat):Bool:=decide (k∈[2,3,4,6,7,8,14,15,16,18,19])
mutual
def bz:Item→Prop
 | .mk k t n _ ks=>(named k=true→gX t=true)∧(0≤n∧n≤2147483647)∧eH ks
def eH:List Item→Prop
 | []=>True
 | x :: r=>bz x∧eH r
end
theorem xL {a b:List Item} (h1:eH a) (h2:eH b):eH (a ++ b):=by
 induction a with
 | nil=>exact h2
 | cons x r ih=>exact⟨h1.1,ih h1.2⟩
def wt:List Tk→Nat
 | []=>0
 | t :: r=>t.2.1.length+1+wt r
theorem az (a b:List Tk):wt (a ++ b)=wt a+wt b:=by
 induction a with
 | nil=>simp [wt]
 | cons t r ih=>simp only [List.cons_append,wt,ih]; omega
theorem aT (x:List UInt8) (r:List Tk):wt (mk4 x :: r)=x.length+1+wt r:=rfl
theorem cK (x:List UInt8) (r:List Tk):wt (wd x :: r)=x.length+1+wt r:=rfl
theorem dE (x:List UInt8) (r:List Tk):wt (nm x :: r)=x.length+1+wt r:=rfl
theorem bE:wt []=0:=rfl
theorem wh (n:Int) (r:List Tk):wt (nb n :: r)=(Lib.itoa n).length+1+wt r:=rfl
def Wt (ts:List Tok):Nat:=wt (tks ts)
theorem jK (t:Tok) (r:List Tok):Wt (t :: r)=t.text.length+1+Wt r:=rfl
theorem TGs.tail {ts:List Tok} (h:TGs ts):TGs ts.tail:=fun t ht=>h t (List.mem_of_mem_tail ht)
theorem xy {x:List UInt8} {ts:List Tok} (h:isT x ts=true):Wt ts=x.length+1+Wt ts.tail:=by
 cases ts with
 | nil=>simp [isT,aj] at h
 | cons t r =>
  simp only [isT,bT,Bool.and_eq_true,beq_iff_eq] at h
  rw [jK,h.2]; rfl
structure Ls (ts r:List Tok) (k:Nat):Prop where
 e:ah r
 g:TGs r
 w:k+Wt r≤Wt ts
theorem dh {x:List UInt8} {ts r:List Tok} (he:ah ts) (hg:TGs ts) (h:af x ts=.ok r):Ls ts r (x.length+1):=by
 obtain ⟨a,b,rfl,c⟩:=aB he h
 exact⟨a,hg.tail,by rw [xy c]; omega⟩
theorem nE {x:List UInt8} {d:Nat} {ts r:List Tok} (he:ah ts) (hg:TGs ts) (h:aR x d ts=.ok r):Ls ts r (x.length+1)∧d<64:=by
 have h':=h
 unfold aR at h
 split at h
 ·cases h
 ·rename_i hn
  have:=dh he hg h
  refine⟨this,?_⟩
  obtain ⟨_,_,_,c⟩:=aB he h
  rw [c] at hn
  simp at hn
  exact hn
theorem jJ {ts r:List Tok} {t:List UInt8} (he:ah ts) (hg:TGs ts) (h:aM ts=.ok (t,r)):Ls ts r (t.length+1)∧gX t=true:=by
 obtain ⟨a,b,rfl,rfl,c⟩:=bP he h
 cases ts with
 | nil=>cases he
 | cons u r =>
  simp only [aj] at c
  refine⟨⟨a,hg.tail,by rw [jK]; simp [bT]⟩,?_⟩
  rcases hg u (by simp) with h | h | h | h | h
  ·exact h.2.2
  all_goals omega
theorem Jo {of:Nat} {ts:List Tok} (h:bQ of ts≠0):1≤bQ of ts∧bQ of ts≤14∧aA (bQ of ts)=of∧isT (bY (bQ of ts)) ts=true:=by
 have:∀ (l:List (List UInt8)) (n:Nat),markFrom of ts n l≠0→n≤markFrom of ts n l∧markFrom of ts n l<n+l.length∧aA (markFrom of ts n l)=of∧isT (l.getD (markFrom of ts n l - n) []) ts=true:=by
  intro l
  induction l with
  | nil=>intro n h; exact absurd rfl h
  | cons m r ih =>
   intro n h
   unfold markFrom at h ⊢
   split
   ·rename_i hc
    refine⟨Nat.le_refl _,by simp,hc.1,by simpa using hc.2⟩
   ·rename_i hc
    rw [if_neg hc] at h
    obtain ⟨a,b,c,d⟩:=ih (n+1) h
    refine⟨by omega,by simp only [List.length_cons]; omega,c,?_⟩
    have e:markFrom of ts (n+1) r - n=markFrom of ts (n+1) r - (n+1)+1:=by omega
    rw [e,List.getD_cons_succ]; exact d
 obtain ⟨a,b,c,d⟩:=this dV 1 h
 simp only [dV,List.length_cons,List.length_nil] at b
 exact⟨a,by unfold bQ dV; omega,c,d⟩
theorem FT {x:Item} (h:WX x) {a b:Nat} (hab:a≤b):wt (outX a x)≤wt (outX b x)∧depX a x≤depX b x:=by
 rcases fV h with ⟨n,c,rfl⟩ | ⟨t,c,rfl⟩ | ⟨t,c,y,rfl,hy⟩ | ⟨n,c,y,rfl,hn,hy⟩ | ⟨n,c,y,z,rfl,hn1,hn2,hy,hz⟩
 ·exact⟨Nat.le_refl _,Nat.le_refl _⟩
 ·exact⟨Nat.le_refl _,Nat.le_refl _⟩
 ·exact⟨Nat.le_refl _,Nat.le_refl _⟩
 ·exact⟨Nat.le_refl _,Nat.le_refl _⟩
 ·simp only [outX,depX,Int.toNat_natCast]
  by_cases h1:aA n<a
  ·rw [if_pos h1,if_pos h1,if_pos (by omega),if_pos (by omega)]; exact⟨Nat.le_refl _,Nat.le_refl _⟩
  ·rw [if_neg h1,if_neg h1]
   split
   ·simp only [aT,az]; exact⟨by omega,by omega⟩
   ·exact⟨Nat.le_refl _,Nat.le_refl _⟩
theorem FC {x:Item} (h:WX x):wt (outX 4 x)≤wt (outX 1 x)+4∧depX 4 x≤depX 1 x+1:=by
 rcases fV h with ⟨n,c,rfl⟩ | ⟨t,c,rfl⟩ | ⟨t,c,y,rfl,hy⟩ | ⟨n,c,y,rfl,hn,hy⟩ | ⟨n,c,y,z,rfl,hn1,hn2,hy,hz⟩
 ·exact⟨by simp [outX],by simp [depX]⟩
 ·exact⟨by simp [outX],by simp [depX]⟩
 ·exact⟨by simp [outX],by simp [depX]⟩
 ·exact⟨by simp [outX],by simp [depX]⟩
 ·obtain ⟨l1,l3⟩:=kN n
  simp only [outX,depX,Int.toNat_natCast]
  have h4:aA n<4:=by omega
  have h1:¬ aA n<1:=by omega
  simp only [h4,h1,if_true,if_false,aT,az,wt,List.length_cons,List.length_nil]
  have c1:(mk4 [41]).2.1.length=1:=rfl
  exact⟨by omega,by omega⟩
structure Xs (of d:Nat) (ts:List Tok) (x:Item) (r:List Tok):Prop where
 s:WX x
 g:bz x
 d:d+depX of x≤64
 l:Ls ts r (wt (outX of x))
theorem Ez:∀ f:Nat,
  (∀ of d ts x r,ah ts→TGs ts→d≤64→of≤4→binS f of d ts=.ok (x,r)→Xs of d ts x r) ∧
  (∀ of d a x0 ts x r k,ah ts→TGs ts→of≤3→WX x0→bz x0→d+depX of x0≤64→wt (outX of x0)+Wt ts≤k→loopS f of d a x0 ts=.ok (x,r)→WX x∧bz x∧d+depX of x≤64∧ah r∧TGs r∧wt (outX of x)+Wt r≤k) ∧
  (∀ d ts x r,ah ts→TGs ts→d≤64→unS f d ts=.ok (x,r)→Xs 4 d ts x r) ∧
  (∀ d ts x r,ah ts→TGs ts→d≤64→cB f d ts=.ok (x,r)→Xs 4 d ts x r)
 | 0=>⟨by intros; simp_all [binS],by intros; simp_all [loopS],by intros; simp_all [unS],by intros; simp_all [cB]⟩
 | f+1=>by
  obtain ⟨hb,hl,hu,hf⟩:=Ez f
  refine⟨?_,?_,?_,?_⟩
  ·intro of d ts x r he hg hd ho h
   unfold binS at h
   split at h
   ·obtain rfl:of=4:=by omega
    exact hu d ts x r he hg hd h
   ·split at h
    ·cases h
    ·rename_i y ts1 h1
     have a:=hb _ _ _ _ _ he hg hd (by omega) h1
     have m:=FT a.s (show of≤of+1 by omega)
     have aw:=a.l.w
     have ad:=a.d
     obtain ⟨b1,b2,b3,b4,b5,b6⟩:=hl of d (nowAt ts) y ts1 x r (Wt ts) a.l.e a.l.g (by omega) a.s a.g (by omega) (by omega) h
     exact⟨b1,b2,b3,b4,b5,b6⟩
  ·intro of d a x0 ts x r k he hg ho hw hgx hd hk h
   unfold loopS at h
   split at h
   ·injection h with h; injection h with h1 h2; subst h1 h2; exact⟨hw,hgx,hd,he,hg,hk⟩
   ·rename_i hm
    obtain ⟨t1,t2⟩:=jm he hm
    obtain ⟨m1,m2,m3,m4⟩:=Jo hm
    have mw:=xy m4
    split at h
    ·cases h
    ·rename_i y ts1 h1
     have b:=hb _ _ _ _ _ t1 hg.tail (by omega) (by omega) h1
     have bw:=b.l.w
     have bd:=b.d
     have hw':WX (.mk 21 [] (bQ of ts) a [x0,y]):=⟨rfl,⟨by omega,by omega⟩,hw,b.s⟩
     have hg':bz (.mk 21 [] (bQ of ts) a [x0,y]):=⟨by decide,⟨by omega,by omega⟩,hgx,b.g,trivial⟩
     have ho':outX of (.mk 21 [] (bQ of ts) a [x0,y])=outX of x0 ++ mk4 (bY (bQ of ts)) :: outX (of+1) y:=by
      simp only [outX,Int.toNat_natCast,m3,Nat.lt_irrefl,if_false]
     have hd':depX of (.mk 21 [] (bQ of ts) a [x0,y])=max (depX of x0) (depX (of+1) y):=by
      simp only [depX,Int.toNat_natCast,m3,Nat.lt_irrefl,if_false]
     refine hl of d a _ ts1 x r k b.l.e b.l.g ho hw' hg' (by rw [hd']; omega) ?_ h
     rw [ho',az,aT]; omega
  ·intro d ts x r he hg hd h
   have un:∀ (m:List UInt8) (n:Int),m.length=1→(n=1∨n=2)→(match aR m d ts with
     | .error e=>.error e
     | .ok ts1=>match unS f (d+1) ts1 with
      | .error e=>.error e
      | .ok (x,ts2)=>.ok (Item.mk 20 [] n (nowAt ts) [x],ts2))=Except.ok (x,r)→Xs 4 d ts x r:=by
    intro m n hm hn h
    split at h
    ·cases h
    ·rename_i ts1 h0
     obtain ⟨c,cd⟩:=nE he hg h0
     split at h
     ·cases h
     ·rename_i y ts2 h1
      have a:=hu _ _ _ _ c.e c.g (by omega) h1
      injection h with h; injection h with h1 h2; subst h1 h2
      have aw:=a.l.w
      have cw:=c.w
      have ad:=a.d
      refine⟨⟨rfl,hn,a.s⟩,⟨by decide,⟨by omega,by omega⟩,a.g,trivial⟩,?_,a.l.e,a.l.g,?_⟩
      ·simp only [depX]; omega
      ·simp only [outX,aT]
       have:(if n=1 then [45] else [33]:List UInt8).length=1:=by split <;> rfl
       omega
   unfold unS at h
   split at h
   ·exact un [45] 1 rfl (Or.inl rfl) h
   ·split at h
    ·exact un [33] 2 rfl (Or.inr rfl) h
    ·exact hf d ts x r he hg hd h
  ·intro d ts x r he hg hd h
   unfold cB at h
   split at h
   ·rename_i hk
    injection h with h; injection h with h1 h2; subst h1 h2
    obtain ⟨t1,t2⟩:=he.tail (by omega)
    cases ts with
    | nil=>cases he
    | cons u r =>
     simp only [aj] at hk
     have hu':u.text=Lib.itoa u.n∧0≤u.n∧u.n≤2147483647:=by
      rcases hg u (by simp) with h | h | h | h | h
      ·omega
      ·omega
      ·exact h.2
      ·omega
      ·omega
     refine⟨⟨rfl,rfl⟩,⟨by decide,hu'.2,trivial⟩,?_,t1,hg.tail,?_⟩
     ·simp only [depX]; omega
     ·simp only [outX,wt,nb,jR,jK,hu'.1,List.tail_cons]; omega
   ·split at h
    ·rename_i hk
     obtain ⟨t1,t2⟩:=he.tail (by omega)
     cases ts with
     | nil=>cases he
     | cons u r0 =>
     simp only [aj] at hk
     have hu':gX u.text=true:=by
      rcases hg u (by simp) with h | h | h | h | h
      ·exact h.2.2
      all_goals omega
     split at h
     ·split at h
      ·cases h
      ·rename_i ts1 h0
       obtain ⟨c,cd⟩:=nE t1 hg.tail h0
       split at h
       ·cases h
       ·rename_i y ts2 h1
        have a:=hb _ _ _ _ _ c.e c.g (by omega) (by omega) h1
        split at h
        ·cases h
        ·rename_i ts3 h2
         have e:=dh a.l.e a.l.g h2
         injection h with h; injection h with h1 h2; subst h1 h2
         have aw:=a.l.w
         have cw:=c.w
         have ew:=e.w
         have ad:=a.d
         refine⟨⟨rfl,a.s⟩,⟨fun _=>hu',⟨by omega,by omega⟩,a.g,trivial⟩,?_,e.e,e.g,?_⟩
         ·simp only [depX]; omega
         ·simp only [outX,wt,az,nm,mk4,jK,bT,List.tail_cons,List.length_cons,List.length_nil] at cw ew ⊢; omega
     ·injection h with h; injection h with h1 h2; subst h1 h2
      refine⟨⟨rfl,rfl⟩,⟨fun _=>hu',⟨by omega,by omega⟩,trivial⟩,?_,t1,hg.tail,?_⟩
      ·simp only [depX]; omega
      ·simp only [outX,wt,nm,jK,bT,List.tail_cons]; omega
    ·split at h
     ·cases h
     ·rename_i ts1 h0
      obtain ⟨c,cd⟩:=nE he hg h0
      split at h
      ·cases h
      ·rename_i y ts2 h1
       have a:=hb _ _ _ _ _ c.e c.g (by omega) (by omega) h1
       split at h
       ·cases h
       ·rename_i ts3 h2
        have e:=dh a.l.e a.l.g h2
        injection h with h; injection h with h1 h2; subst h1 h2
        have aw:=a.l.w
        have cw:=c.w
        have ew:=e.w
        have ad:=a.d
        obtain ⟨o1,o2⟩:=FC a.s
        refine⟨a.s,a.g,by omega,e.e,e.g,?_⟩
        simp only [List.length_cons,List.length_nil] at cw ew
        omega
theorem kQ {f d:Nat} {ts r:List Tok} {x:Item} (he:ah ts) (hg:TGs ts) (hd:d≤64) (h:binS f 1 d ts=.ok (x,r)):Xs 1 d ts x r:=(Ez f).1 _ _ _ _ _ he hg hd (by omega) h
theorem lh {f d:Nat} {ts r:List Tok} {x:Item} (he:ah ts) (hg:TGs ts) (hd:d≤64) (h:bA f d ts=.ok (x,r)):WX x∧bz x∧d+depX 1 x≤64∧Ls ts r (wt (outX 1 x)+2):=by
 unfold bA at h
 split at h
 ·cases h
 rename_i y ts1 h1
 have a:=kQ he hg hd h1
 split at h
 ·cases h
 rename_i ts2 h2
 have b:=dh a.l.e a.l.g h2
 injection h with h; injection h with h1 h2; subst h1 h2
 have aw:=a.l.w
 have bw:=b.w
 simp only [List.length_cons,List.length_nil] at bw
 exact⟨a.s,a.g,a.d,b.e,b.g,by omega⟩
theorem mO {x:Item} (h:bz x):eH [x]:=⟨h,trivial⟩
theorem rC:∀ (f d:Nat) (b:Bool) (acc:List Item) (ts r:List Tok) (l:List Item),ah ts→TGs ts→d≤64→argsS f d b acc ts=.ok (l,r) →
  ∃ l',l=acc ++ l'∧WXs l'∧eH l'∧d+o9 l'≤64∧Ls ts r (wt (outA b l'))
 | 0,_,_,_,_,_,_,_,_,_,h=>by simp [argsS] at h
 | f+1,d,b,acc,ts,r,l,he,hg,hd,h=>by
  unfold argsS at h
  split at h
  ·injection h with h; injection h with h1 h2; subst h1 h2
   exact⟨[],by simp,trivial,trivial,by simpa [o9] using hd,he,hg,by simp [outA,wt]⟩
  ·split at h
   ·cases h
   rename_i ts1 h0
   have c:ah ts1∧TGs ts1∧wt (if b then [] else [mk4 [44]])+Wt ts1≤Wt ts:=by
    cases b
    ·have:=dh he hg h0
     have cw:=this.w
     simp only [List.length_cons,List.length_nil] at cw
     refine⟨this.e,this.g,?_⟩
     simp only [Bool.false_eq_true,if_false,aT,wt,List.length_cons,List.length_nil]; omega
    ·injection h0 with h0; subst h0; exact⟨he,hg,by simp [wt]⟩
   split at h
   ·cases h
   rename_i x ts2 h1
   have a:=kQ c.1 c.2.1 hd h1
   obtain ⟨l',rfl,b1,b2,b3,b4⟩:=rC f d false _ _ _ _ a.l.e a.l.g hd h
   have aw:=a.l.w
   have ad:=a.d
   have bw:=b4.w
   have cw:=c.2.2
   refine⟨x :: l',by simp,⟨a.s,b1⟩,⟨a.g,b2⟩,by simp only [o9]; omega,b4.e,b4.g,?_⟩
   simp only [outA,az]; omega
theorem sP:∀ (f:Nat) (b:Bool) (acc:List Item) (ts r:List Tok) (l:List Item),ah ts→TGs ts→parsS f b acc ts=.ok (l,r) →
  ∃ l',l=acc ++ l'∧(∀ x∈l',WN 4 x)∧eH l'∧Ls ts r (wt (di b l'))
 | 0,_,_,_,_,_,_,_,h=>by simp [parsS] at h
 | f+1,b,acc,ts,r,l,he,hg,h=>by
  unfold parsS at h
  split at h
  ·injection h with h; injection h with h1 h2; subst h1 h2
   exact⟨[],by simp,by simp,trivial,he,hg,by simp [di,wt]⟩
  ·split at h
   ·cases h
   rename_i ts1 h0
   have c:ah ts1∧TGs ts1∧wt (if b then [] else [mk4 [44]])+Wt ts1≤Wt ts:=by
    cases b
    ·have:=dh he hg h0
     have cw:=this.w
     simp only [List.length_cons,List.length_nil] at cw
     refine⟨this.e,this.g,?_⟩
     simp only [Bool.false_eq_true,if_false,aT,wt,List.length_cons,List.length_nil]; omega
    ·injection h0 with h0; subst h0; exact⟨he,hg,by simp [wt]⟩
   split at h
   ·cases h
   rename_i x ts2 h1
   obtain ⟨a,an⟩:=jJ c.1 c.2.1 h1
   obtain ⟨l',rfl,b1,b2,b4⟩:=sP f false _ _ _ _ a.e a.g h
   have aw:=a.w
   have bw:=b4.w
   have cw:=c.2.2
   refine⟨.mk 4 x 0 (nowAt ts1) [] :: l',by simp,?_,⟨⟨fun _=>an,⟨by omega,by omega⟩,trivial⟩,b2⟩,b4.e,b4.g,?_⟩
   ·intro z hz
    rcases List.mem_cons.1 hz with rfl | hz
    ·exact⟨rfl,rfl,rfl⟩
    ·exact b1 z hz
   ·simp only [di,az,dE,dD]; omega
structure Ss (b:Bool) (d:Nat) (ts:List Tok) (x:Item) (r:List Tok):Prop where
 s:WS b x
 g:bz x
 d:d+depS x≤64
 l:Ls ts r (wt (outS x))
theorem vS {t:List UInt8} {k:Nat} (h:(dn.lookup t).getD 0=k) (hk:k≠0):∃ w,(w,k)∈dn∧t=w:=by
 have:∀ (l:List (List UInt8×Nat)),(l.lookup t).getD 0=k→∃ w,(w,k)∈l∧t=w:=by
  intro l
  induction l with
  | nil=>intro h; exact absurd h.symm hk
  | cons p r ih =>
   intro h
   obtain ⟨w,k'⟩:=p
   rw [List.lookup_cons] at h
   by_cases e:t=w
   ·subst e
    simp at h
    exact⟨t,by simp [h],rfl⟩
   ·rw [show (t == w)=false by simp [e]] at h
    obtain ⟨w',a,b⟩:=ih h
    exact⟨w',by simp [a],b⟩
 exact this _ h
theorem IJ {ts:List Tok} (he:ah ts) (hg:TGs ts) (h:aG ts≠0):∃ w,(w,aG ts)∈dn∧Ls ts ts.tail (w.length+1):=by
 obtain ⟨t1,t2⟩:=iI he h
 cases ts with
 | nil=>cases he
 | cons t r =>
  have h':=h
  unfold aG at h'
  split at h'
  ·rename_i hk
   obtain ⟨w,a,b⟩:=vS rfl h'
   simp only [bT] at b
   refine⟨w,?_,t1,hg.tail,by rw [jK,b]; exact Nat.le_refl _⟩
   unfold aG
   rw [if_pos hk]; exact a
  ·exact absurd rfl h'
theorem vQ {f d a:Nat} {ts r:List Tok} {x:Item} (he:ah ts) (hg:TGs ts) (hd:d≤64) (h:bS f d a ts=.ok (x,r)):WS true x∧bz x∧d+depS x≤64∧∃ k,wt (outS x)=k+4∧Ls ts r k:=by
 unfold bS at h
 split at h
 ·cases h
 rename_i t ts1 h1
 obtain ⟨a1,an⟩:=jJ he hg h1
 split at h
 ·cases h
 rename_i ts2 h2
 have b:=dh a1.e a1.g h2
 split at h
 ·cases h
 rename_i y ts3 h3
 obtain ⟨c1,c2,c3,c4⟩:=lh b.e b.g hd h3
 injection h with h; injection h with h1 h2; subst h1 h2
 have aw:=a1.w
 have bw:=b.w
 have cw:=c4.w
 simp only [List.length_cons,List.length_nil] at bw
 have hd':depS (.mk 6 t 0 a [y])=depX 1 y:=by rw [depS] <;> (intros; first | contradiction | (rename_i h; cases h; done) | omega | simp)
 refine⟨.declare _ _ _ c1,⟨fun _=>an,⟨by omega,by omega⟩,mO c2⟩,by rw [hd']; exact c3,wt (outS (.mk 6 t 0 a [y])) - 4,?_,c4.e,c4.g,?_⟩
 ·rw [outS]
  simp only [cK,dE,aT,az,bE,List.length_cons,List.length_nil]
  omega
 ·rw [outS]
  simp only [cK,dE,aT,az,bE,List.length_cons,List.length_nil]
  omega
theorem Bt {a d:Nat} {ts r:List Tok} {x:Item} (he:ah ts) (hg:TGs ts) (hd:d≤64) (h:fC a ts=.ok (x,r)):WS true x∧bz x∧d+depS x≤64∧∃ k,wt (outS x)=k+5∧Ls ts r k:=by
 unfold fC at h
 split at h
 ·cases h
 rename_i t ts1 h1
 obtain ⟨a1,an⟩:=jJ he hg h1
 split at h
 ·cases h
 rename_i ts2 h2
 have b:=dh a1.e a1.g h2
 injection h with h; injection h with h1 h2; subst h1 h2
 have aw:=a1.w
 have bw:=b.w
 simp only [List.length_cons,List.length_nil] at bw
 have hd':depS (.mk 14 t 0 a [])=0:=by rw [depS] <;> (intros; first | contradiction | (rename_i h; cases h; done) | omega | simp)
 refine⟨.read _ _,⟨fun _=>an,⟨by omega,by omega⟩,trivial⟩,by rw [hd']; omega,wt (outS (.mk 14 t 0 a [])) - 5,?_,b.e,b.g,?_⟩
 ·rw [outS]
  simp only [cK,dE,aT,bE,List.length_cons,List.length_nil]
  omega
 ·rw [outS]
  simp only [cK,dE,aT,bE,List.length_cons,List.length_nil]
  omega
theorem Cg {f d a:Nat} {ts r:List Tok} {x:Item} (he:ah ts) (hg:TGs ts) (hd:d≤64) (h:callS f d a ts=.ok (x,r)):WS true x∧bz x∧d+depS x≤64∧∃ k,wt (outS x)=k+5∧Ls ts r k:=by
 unfold callS at h
 split at h
 ·cases h
 rename_i t ts1 h1
 obtain ⟨a1,an⟩:=jJ he hg h1
 split at h
 ·cases h
 rename_i ts2 h2
 have b:=dh a1.e a1.g h2
 split at h
 ·cases h
 rename_i u ts3 h3
 obtain ⟨c,cn⟩:=jJ b.e b.g h3
 split at h
 ·cases h
 rename_i ts4 h4
 have e:=dh c.e c.g h4
 split at h
 ·cases h
 rename_i l ts5 h5
 obtain ⟨l',rfl,q1,q2,q3,q4⟩:=rC _ _ _ _ _ _ _ e.e e.g hd h5
 split at h
 ·cases h
 rename_i ts6 h6
 have g:=dh q4.e q4.g h6
 split at h
 ·cases h
 rename_i ts7 h7
 have j:=dh g.e g.g h7
 injection h with h; injection h with h1 h2; subst h1 h2
 have aw:=a1.w
 have bw:=b.w
 have cw:=c.w
 have ew:=e.w
 have qw:=q4.w
 have gw:=g.w
 have jw:=j.w
 simp only [List.length_cons,List.length_nil] at bw ew gw jw
 try simp only [List.nil_append]
 have hd':depS (.mk 15 t 0 a (.mk 16 u 0 (nowAt ts2) [] :: l))=o9 l:=by rw [depS]
 refine⟨.call _ _ _ _ _ q1,⟨fun _=>an,⟨by omega,by omega⟩,⟨fun _=>cn,⟨by omega,by omega⟩,trivial⟩,q2⟩,by rw [hd']; exact q3,wt (outS (.mk 15 t 0 a (.mk 16 u 0 (nowAt ts2) [] :: l))) - 5,?_,j.e,j.g,?_⟩
 ·rw [outS]
  simp only [cK,dE,aT,az,bE,List.length_cons,List.length_nil]
  omega
 ·rw [outS]
  simp only [dD]
  simp only [cK,dE,aT,az,bE,List.length_cons,List.length_nil]
  omega
theorem yD {f d:Nat} {ts r:List Tok} {x:Item} (he:ah ts) (hg:TGs ts) (hd:d≤64) (h:bH f d ts=.ok (x,r)):Ss true d ts x r:=by
 unfold bH at h
 split at h
 ·cases h
 rename_i t ts1 h1
 obtain ⟨a1,an⟩:=jJ he hg h1
 have aw:=a1.w
 split at h
 ·split at h
  ·cases h
  rename_i ts2 h2
  obtain ⟨b,bd⟩:=nE a1.e a1.g h2
  split at h
  ·cases h
  rename_i y ts3 h3
  have c:=kQ b.e b.g (by omega) h3
  split at h
  ·cases h
  rename_i ts4 h4
  have e:=dh c.l.e c.l.g h4
  split at h
  ·cases h
  rename_i ts5 h5
  have g:=dh e.e e.g h5
  split at h
  ·cases h
  rename_i z ts6 h6
  obtain ⟨j1,j2,j3,j4⟩:=lh g.e g.g hd h6
  injection h with h; injection h with h1 h2; subst h1 h2
  have bw:=b.w
  have cw:=c.l.w
  have cd:=c.d
  have ew:=e.w
  have gw:=g.w
  have jw:=j4.w
  simp only [List.length_cons,List.length_nil] at bw ew gw
  refine⟨.store _ _ _ _ c.s j1,⟨fun _=>an,⟨by omega,by omega⟩,c.g,j2,trivial⟩,?_,j4.e,j4.g,?_⟩
  ·rw [depS]; omega
  ·rw [outS]
   simp only [dE,aT,az,bE,List.length_cons,List.length_nil]
   omega
 ·split at h
  ·cases h
  rename_i ts2 h2
  have b:=dh a1.e a1.g h2
  split at h
  ·cases h
  rename_i z ts6 h6
  obtain ⟨j1,j2,j3,j4⟩:=lh b.e b.g hd h6
  injection h with h; injection h with h1 h2; subst h1 h2
  have bw:=b.w
  have jw:=j4.w
  simp only [List.length_cons,List.length_nil] at bw
  have hd':depS (.mk 7 t 0 (nowAt ts) [z])=depX 1 z:=by rw [depS] <;> (intros; first | contradiction | (rename_i h; cases h; done) | omega | simp)
  refine⟨.assign _ _ _ j1,⟨fun _=>an,⟨by omega,by omega⟩,mO j2⟩,by rw [hd']; exact j3,j4.e,j4.g,?_⟩
  rw [outS]
  simp only [dE,aT,az,bE,List.length_cons,List.length_nil]
  omega
theorem DK:∀ f:Nat,
  (∀ d ts x r,ah ts→TGs ts→d≤64→aH f d ts=.ok (x,r)→Ss false d ts x r) ∧
  (∀ d acc ts l r,ah ts→TGs ts→d≤64→stmtsS f d acc ts=.ok (l,r)→∃ l',l=acc ++ l'∧(∀ x∈l',WS true x)∧eH l'∧d+oC l'≤64∧Ls ts r (wt (dI l'))) ∧
  (∀ d a ts x r,ah ts→TGs ts→d≤64→bI f d a ts=.ok (x,r)→WS true x∧bz x∧d+depS x≤64∧∃ k,wt (outS x)=k+3∧Ls ts r k) ∧
  (∀ d a ts x r,ah ts→TGs ts→d≤64→fw f d a ts=.ok (x,r)→WS true x∧bz x∧d+depS x≤64∧∃ k,wt (outS x)=k+4∧Ls ts r k) ∧
  (∀ d ts x r,ah ts→TGs ts→d≤64→aZ f d ts=.ok (x,r)→Ss true d ts x r)
 | 0=>⟨by intros; simp_all [aH],by intros; simp_all [stmtsS],by intros; simp_all [bI],by intros; simp_all [fw],by intros; simp_all [aZ]⟩
 | f+1=>by
  obtain ⟨hb,hl,hc,hf,hs⟩:=DK f
  refine⟨?_,?_,?_,?_,?_⟩
  ·intro d ts x r he hg hd h
   unfold aH at h
   split at h
   ·cases h
   rename_i ts1 h1
   obtain ⟨a,ad⟩:=nE he hg h1
   split at h
   ·cases h
   rename_i l ts2 h2
   obtain ⟨l',rfl,b1,b2,b3,b4⟩:=hl _ _ _ _ _ a.e a.g (by omega) h2
   split at h
   ·cases h
   rename_i ts3 h3
   have c:=dh b4.e b4.g h3
   injection h with h; injection h with h1 h2; subst h1 h2
   have aw:=a.w
   have bw:=b4.w
   have cw:=c.w
   simp only [List.length_cons,List.length_nil] at aw cw
   try simp only [List.nil_append]
   refine⟨.block _ _ b1,⟨by decide,⟨by omega,by omega⟩,b2⟩,?_,c.e,c.g,?_⟩
   ·rw [depS]; omega
   ·rw [outS]
    simp only [aT,az,bE,List.length_cons,List.length_nil]
    omega
  ·intro d acc ts l r he hg hd h
   unfold stmtsS at h
   split at h
   ·injection h with h; injection h with h1 h2; subst h1 h2
    exact⟨[],by simp,by simp,trivial,by simpa [oC] using hd,he,hg,by simp [dI,wt]⟩
   split at h
   ·cases h
   rename_i y ts1 h1
   have a:=hs _ _ _ _ he hg hd h1
   obtain ⟨l',rfl,b1,b2,b3,b4⟩:=hl _ _ _ _ _ a.l.e a.l.g hd h
   have aw:=a.l.w
   have ad:=a.d
   have bw:=b4.w
   refine⟨y :: l',by simp,?_,⟨a.g,b2⟩,by simp only [oC]; omega,b4.e,b4.g,by simp only [dI,az]; omega⟩
   intro z hz
   rcases List.mem_cons.1 hz with rfl | hz
   ·exact a.s
   ·exact b1 z hz
  ·intro d a ts x r he hg hd h
   unfold bI at h
   split at h
   ·cases h
   rename_i y ts1 h1
   have p:=kQ he hg hd h1
   split at h
   ·cases h
   rename_i b ts2 h2
   have q:=hb _ _ _ _ p.l.e p.l.g hd h2
   have pw:=p.l.w
   have pd:=p.d
   have qw:=q.l.w
   have qd:=q.d
   split at h
   ·rename_i hi
    obtain ⟨t1,t2⟩:=q.l.e.tail (gJ hi)
    have iw:=xy hi
    simp only [List.length_cons,List.length_nil] at iw
    split at h
    ·cases h
    rename_i c ts3 h3
    have s:=hb _ _ _ _ t1 q.l.g.tail hd h3
    have sw:=s.l.w
    have sd:=s.d
    injection h with h; injection h with h1 h2; subst h1 h2
    refine⟨.if2 _ _ _ _ p.s q.s s.s,⟨by decide,⟨by omega,by omega⟩,p.g,q.g,s.g,trivial⟩,by rw [depS]; omega,wt (outS (.mk 9 [] 0 a [y,b,c])) - 3,?_,s.l.e,s.l.g,?_⟩
    ·rw [outS]
     simp only [cK,az,List.length_cons,List.length_nil]
     omega
    ·rw [outS]
     simp only [cK,az,List.length_cons,List.length_nil]
     omega
   ·injection h with h; injection h with h1 h2; subst h1 h2
    refine⟨.if1 _ _ _ p.s q.s,⟨by decide,⟨by omega,by omega⟩,p.g,q.g,trivial⟩,by rw [depS]; omega,wt (outS (.mk 9 [] 0 a [y,b])) - 3,?_,q.l.e,q.l.g,?_⟩
    ·rw [outS]
     simp only [cK,az,List.length_cons,List.length_nil]
     omega
    ·rw [outS]
     simp only [cK,az,List.length_cons,List.length_nil]
     omega
  ·intro d a ts x r he hg hd h
   unfold fw at h
   split at h
   ·cases h
   rename_i y ts1 h1
   have p:=kQ he hg hd h1
   split at h
   ·cases h
   rename_i b ts2 h2
   have q:=hb _ _ _ _ p.l.e p.l.g hd h2
   have pw:=p.l.w
   have pd:=p.d
   have qw:=q.l.w
   have qd:=q.d
   injection h with h; injection h with h1 h2; subst h1 h2
   refine⟨.for1 _ _ _ p.s q.s,⟨by decide,⟨by omega,by omega⟩,p.g,q.g,trivial⟩,by rw [depS]; omega,wt (outS (.mk 10 [] 0 a [y,b])) - 4,?_,q.l.e,q.l.g,?_⟩
   ·rw [outS]
    simp only [cK,az,List.length_cons,List.length_nil]
    omega
   ·rw [outS]
    simp only [cK,az,List.length_cons,List.length_nil]
    omega
  ·intro d ts x r he hg hd h
   unfold aZ at h
   split at h
   ·exact yD he hg hd h
   rename_i hw
   obtain ⟨w,wm,wl⟩:=IJ he hg hw
   have ww:=wl.w
   have wk:∀ k n,aG ts=k→(∀ p∈dn,p.2=k→p.1.length=n)→w.length=n:=fun k n hk hp=>hp _ wm hk
   split at h
   ·rename_i hk
    obtain ⟨a1,a2,a3,k,a4,a5⟩:=vQ wl.e wl.g hd h
    have:=wk 6 3 hk (by decide)
    have a5w:=a5.w
    exact⟨a1,a2,a3,a5.e,a5.g,by omega⟩
   split at h
   ·rename_i hk
    obtain ⟨a1,a2,a3,k,a4,a5⟩:=hc _ _ _ _ _ wl.e wl.g hd h
    have:=wk 9 2 hk (by decide)
    have a5w:=a5.w
    exact⟨a1,a2,a3,a5.e,a5.g,by omega⟩
   split at h
   ·rename_i hk
    obtain ⟨a1,a2,a3,k,a4,a5⟩:=hf _ _ _ _ _ wl.e wl.g hd h
    have:=wk 10 3 hk (by decide)
    have a5w:=a5.w
    exact⟨a1,a2,a3,a5.e,a5.g,by omega⟩
   split at h
   ·rename_i hk
    obtain ⟨a1,a2,a3,k,a4,a5⟩:=Bt (d:=d) wl.e wl.g hd h
    have:=wk 14 4 hk (by decide)
    have a5w:=a5.w
    exact⟨a1,a2,a3,a5.e,a5.g,by omega⟩
   split at h
   ·rename_i hk
    obtain ⟨a1,a2,a3,k,a4,a5⟩:=Cg wl.e wl.g hd h
    have:=wk 15 4 hk (by decide)
    have a5w:=a5.w
    exact⟨a1,a2,a3,a5.e,a5.g,by omega⟩
   rename_i n6 n9 n10 n14 n15
   split at h
   ·cases h
   rename_i y ts1 h1
   obtain ⟨c1,c2,c3,c4⟩:=lh wl.e wl.g hd h1
   injection h with h; injection h with h1 h2; subst h1 h2
   have cw:=c4.w
   have hk:(aG ts=11∧w.length=6)∨(aG ts=12∧w.length=5)∨(aG ts=13∧w.length=4):=by
    have:∀ p∈dn,p.2=6∨p.2=9∨p.2=10∨p.2=14∨p.2=15∨(p.2=11∧p.1.length=6)∨(p.2=12∧p.1.length=5)∨(p.2=13∧p.1.length=4):=by decide
    have:=this _ wm
    simp only at this
    omega
   generalize aG ts=k at *
   have hd':depS (.mk k [] 0 (nowAt ts) [y])=depX 1 y:=by rcases hk with ⟨rfl,_⟩ | ⟨rfl,_⟩ | ⟨rfl,_⟩ <;> (rw [depS] <;> (intros; first | contradiction | (rename_i h; cases h; done) | omega | simp))
   refine⟨.ret _ _ _ (by omega) c1,⟨fun hn=>?_,⟨by omega,by omega⟩,mO c2⟩,by rw [hd']; exact c3,c4.e,c4.g,?_⟩
   ·rcases hk with ⟨rfl,_⟩ | ⟨rfl,_⟩ | ⟨rfl,_⟩ <;> exact absurd hn (by decide)
   ·rcases hk with ⟨rfl,hl⟩ | ⟨rfl,hl⟩ | ⟨rfl,hl⟩
    ·rw [outS]
     simp only [cK,aT,az,bE,List.length_cons,List.length_nil]
     omega
    ·rw [outS]
     simp only [cK,aT,az,bE,List.length_cons,List.length_nil]
     omega
    ·rw [outS]
     simp only [cK,aT,az,bE,List.length_cons,List.length_nil]
     omega
theorem zI {ts r:List Tok} {x:Item} (he:ah ts) (hg:TGs ts) (h:dO ts=.ok (x,r)):WD x∧bz x∧depD x≤64∧Ls ts r (wt (outD x)):=by
 unfold dO at h
 split at h
 ·cases h
 rename_i ts1 h1
 have a:=dh he hg h1
 split at h
 ·cases h
 rename_i t ts2 h2
 obtain ⟨b,bn⟩:=jJ a.e a.g h2
 split at h
 ·cases h
 rename_i ts3 h3
 have c:=dh b.e b.g h3
 split at h
 ·rename_i hk
  obtain ⟨k1,k2⟩:=c.e.tail (by omega)
  cases ts3 with
  | nil=>cases c.e
  | cons u r0 =>
  simp only [aj] at hk
  have hu':u.text=Lib.itoa u.n∧0≤u.n∧u.n≤2147483647:=by
   rcases c.g u (by simp) with h | h | h | h | h
   ·omega
   ·omega
   ·exact h.2
   ·omega
   ·omega
  split at h
  ·cases h
  rename_i ts4 h4
  have d:=dh k1 c.g.tail h4
  split at h
  ·cases h
  rename_i ts5 h5
  have e:=dh d.e d.g h5
  injection h with h; injection h with h1 h2; subst h1 h2
  have aw:=a.w
  have bw:=b.w
  have cw:=c.w
  have dw:=d.w
  have ew:=e.w
  rw [jK,hu'.1] at cw
  simp only [List.length_cons,List.length_nil,List.tail_cons] at aw cw dw ew
  refine⟨.array _ _ _,⟨fun _=>bn,hu'.2,trivial⟩,Nat.zero_le _,e.e,e.g,?_⟩
  simp only [outD,jR,cK,dE,aT,wh,bE,List.length_cons,List.length_nil]
  omega
 ·cases h
theorem Ch {f:Nat} {ts r:List Tok} {x:Item} (he:ah ts) (hg:TGs ts) (h:dU f ts=.ok (x,r)):WD x∧bz x∧depD x≤64∧Ls ts r (wt (outD x)):=by
 unfold dU at h
 split at h
 ·cases h
 rename_i ts1 h1
 have a:=dh he hg h1
 split at h
 ·cases h
 rename_i t ts2 h2
 obtain ⟨b,bn⟩:=jJ a.e a.g h2
 split at h
 ·cases h
 rename_i ts3 h3
 have c:=dh b.e b.g h3
 split at h
 ·cases h
 rename_i l ts4 h4
 obtain ⟨l',rfl,d1,d2,d3⟩:=sP _ _ _ _ _ _ c.e c.g h4
 split at h
 ·cases h
 rename_i ts5 h5
 have e:=dh d3.e d3.g h5
 split at h
 ·cases h
 rename_i y ts6 h6
 have g:=(DK f).1 _ _ _ _ e.e e.g (by omega) h6
 injection h with h; injection h with h1 h2; subst h1 h2
 have aw:=a.w
 have bw:=b.w
 have cw:=c.w
 have dw:=d3.w
 have ew:=e.w
 have gw:=g.l.w
 have gd:=g.d
 simp only [List.length_cons,List.length_nil] at aw cw ew
 try simp only [List.nil_append]
 refine⟨.func _ _ _ _ d1 g.s,⟨fun _=>bn,⟨by omega,by omega⟩,xL d2 (mO g.g)⟩,?_,g.l.e,g.l.g,?_⟩
 ·simp only [depD,List.getLast?_concat]; omega
 ·simp only [outD,List.dropLast_concat,List.getLast?_concat,cK,dE,aT,az,List.length_cons,List.length_nil]
  omega
theorem qC:∀ (f:Nat) (acc:List Item) (ts:List Tok) (l:List Item),ah ts→TGs ts→partsS f acc ts=.ok l→∃ l',l=acc ++ l'∧(∀ x∈l',WD x)∧eH l'∧mV l'≤64∧wt (cZ l')≤Wt ts
 | 0,_,_,_,_,_,h=>by simp [partsS] at h
 | f+1,acc,ts,l,he,hg,h=>by
  unfold partsS at h
  split at h
  ·injection h with h; subst h
   exact⟨[],by simp,by simp,trivial,by simp [mV],by simp [cZ,wt]⟩
  have key:∀ x ts1,WD x∧bz x∧depD x≤64∧Ls ts ts1 (wt (outD x))→partsS f (acc ++ [x]) ts1=.ok l→∃ l',l=acc ++ l'∧(∀ x∈l',WD x)∧eH l'∧mV l'≤64∧wt (cZ l')≤Wt ts:=by
   intro x ts1 ⟨a1,a2,a3,a4⟩ h
   obtain ⟨l',rfl,b1,b2,b3,b4⟩:=qC f _ _ _ a4.e a4.g h
   have aw:=a4.w
   refine⟨x :: l',by simp,?_,⟨a2,b2⟩,by simp only [mV]; omega,by simp only [cZ,az]; omega⟩
   intro z hz
   rcases List.mem_cons.1 hz with rfl | hz
   ·exact a1
   ·exact b1 z hz
  by_cases hv:isT [118,97,114] ts=true
  ·rw [if_pos hv] at h
   split at h
   ·cases h
   rename_i x ts1 h1
   exact key _ _ (zI he hg h1) h
  ·rw [if_neg hv] at h
   split at h
   ·cases h
   rename_i x ts1 h1
   exact key _ _ (Ch he hg h1) h
theorem oG {ts:List Tok} {x:Item} (he:ah ts) (hg:TGs ts) (h:progS ts=.ok x):WP x∧bz x∧Bp x≤64∧wt (gM x)≤Wt ts:=by
 unfold progS at h
 split at h
 ·cases h
 rename_i l h1
 obtain ⟨l',rfl,b1,b2,b3,b4⟩:=qC _ _ _ _ he hg h1
 injection h with h; subst h
 exact⟨⟨rfl,rfl,rfl,by simpa using b1⟩,⟨by decide,⟨by omega,by omega⟩,by simpa using b2⟩,by simpa [Bp] using b3,by simpa [gM] using b4⟩
end Go.Proofs.YtkkeocnnecegbaaGreatDoor
