/- Joint text: EvQ, EvQa, EvX, EvR, EvS, EvT. By an AI agent. -/
import Derived.Test.YtgdibfnpkcdiiaaGreatDoorSzy
import Derived.Test.YtgdibfnpkcdiiaaGreatDoorS09
import Derived.Test.YtgdibfnpkcdiiaaGreatDoorProg
set_option linter.all false
set_option maxRecDepth 100000
set_option maxHeartbeats 64000000
noncomputable section
namespace Go.Proofs.YtgdibfnpkcdiiaaGreatDoor
namespace Ev
def mc(m:Nat):Nat:=Nat.mod (Nat.div m 16) 16777216
def mv(m:Nat):Nat:=Nat.mod (Nat.div m 268435456) 256
def ms(m:Nat):Nat:=Nat.div m 68719476736
def Q0(nv:Nat)(st:St):RS:=sel (Nat.blt (Nat.add st.nM 1) 16777216) (fc (ad st.M (Nat.add st.nM 1) (eMp 0 nv st.nM)) λM=>.ok (iP (Nat.add st.nM 1)) (setM M (Nat.add st.nM 3) st)) .no
def kEq(S x y:Nat):Option Bool:=sel (Nat.beq (Nat.mod x 16) 3) (sel (Nat.beq (Nat.mod y 16) 3) (some (zR S x y)) none) (sel (Nat.beq (Nat.mod x 16) 2) (sel (Nat.beq (Nat.mod x 256) (Nat.mod y 256)) (some (Nat.beq x y)) none) none)
def oO(S M s str k c:Nat):Nat->Option Nat:=λn=>Nat.rec (some 0) (λi ih=>Option.rec none (λb=>sel b (some (Nat.sub c i)) ih) (kEq S k (gt M (Nat.add s (Nat.mul (Nat.sub (Nat.sub c i) 1) str))))) n
def Eo(a nv:Nat)(m k x:Opd)(st:St):RS:=sel (Nat.beq (Nat.mod (rd st.T m) 16) 8) (sel (Nat.beq (Nat.mod (rd st.T k) 16) a) (fc (gt st.M (Nat.div (rd st.T m) 16)) λd=>sel (Nat.beq (mv d) nv)
  (Option.rec .no (λj=>sel (Nat.beq j 0) (sel (Nat.blt st.nM 16777216) (sel (Nat.blt (Nat.add (mc d) 1) 16777216)
   (sel (sel (Nat.beq nv 0) (fU (rd st.T x)) (sel (Nat.beq (Nat.mod (rd st.T x) 16) 12) (Nat.beq (ln (rd st.T x)) nv) false))
    (fc (ad st.M st.nM (ad (ch st.M (ms d) (Nat.mul (mc d) (stride nv))) (Nat.mul (mc d) (stride nv)) (ad (rd st.T k) 1 (sel (Nat.beq nv 0) (rd st.T x) (ch st.R (sa (rd st.T x)) nv))))) λM=>fc (up M (Nat.div (rd st.T m) 16) 1 (eMp (Nat.add (mc d) 1) nv st.nM)) λM=>.ok 0 (setM M (Nat.add (Nat.add st.nM (Nat.mul (Nat.add (mc d) 1) (stride nv))) 1) st)) .no) .no) .no) .no)
   (oO st.S st.M (ms d) (stride nv) (rd st.T k) (mc d) (mc d))) .no) .no) .no
def TI(a nv b:Nat)(m k:Opd)(st:St):RS:=sel (Nat.beq (Nat.mod (rd st.T m) 16) 8) (sel (Nat.beq (Nat.mod (rd st.T k) 16) a) (fc (gt st.M (Nat.div (rd st.T m) 16)) λd=>sel (Nat.beq (mv d) nv) (sel (Nat.blt (Nat.add st.nR (Nat.add nv 4)) 4294967296)
  (Option.rec .no (λj=>fc (sel (Nat.beq j 0) b (ch st.M (Nat.add (Nat.add (ms d) (Nat.mul (Nat.sub j 1) (stride nv))) 1) (sel (Nat.beq nv 0) 1 nv))) λv=>sel (Nat.beq nv 0)
    (fc (ad st.R st.nR (ad v 1 (sel (Nat.beq j 0) 1 17))) λR=>.ok (fJ st.nR 2) (setR R (Nat.add st.nR 2) st))
    (fc (ad st.R st.nR (ad v nv (ad (dY st.nR nv) 1 (sel (Nat.beq j 0) 1 17)))) λR=>.ok (fJ (Nat.add st.nR nv) 2) (setR R (Nat.add st.nR (Nat.add nv 2)) st)))
   (oO st.S st.M (ms d) (stride nv) (rd st.T k) (mc d) (mc d))) .no) .no) .no) .no
def KY(a nv b:Nat)(m k:Opd)(st:St):RS:=sel (Nat.beq (Nat.mod (rd st.T k) 16) a) (sel (Nat.beq (Nat.mod (rd st.T m) 16) 8) (fc (gt st.M (Nat.div (rd st.T m) 16)) λd=>sel (Nat.beq nv 0) (sel (Nat.beq (mv d) 0)
  (Option.rec .no (λj=>.ok (sel (Nat.beq j 0) b (gt st.M (Nat.add (Nat.add (ms d) (Nat.mul (Nat.sub j 1) 2)) 1))) st)
   (oO st.S st.M (ms d) 2 (rd st.T k) (mc d) (mc d))) .no) .no) .no) .no
inductive CO where|op(f:St->RS)|call(f:Nat)(l:List Opd)|dyn(x:Opd)(l:List Opd)|dfr(x:Opd)(l:List Opd)
def nop(_:St):RS:=.no
abbrev no:CO:=.op nop
def cSe(P:Program)(K:Kon)(op:BinOp)(t:TypeId)(fs:Array Field)(x y:Operand):CO:=match Ex P fs.toList,P.info? t,op with|some l,some i,.eql=>if P.eqGuardType P.depth t=false/\P.stoodInHeld t=false/\(l.all λq=>Nat.blt q.1 i.size)=true then .op (Mh false i.size l (cOp K x) (cOp K y))else no|some l,some i,.neq=>if P.eqGuardType P.depth t=false/\P.stoodInHeld t=false/\(l.all λq=>Nat.blt q.1 i.size)=true then .op (Mh true i.size l (cOp K x) (cOp K y))else no|_,_,_=>no
def Gi(P:Program)(K:Kon)(op:BinOp)(t:TypeId)(x y:Operand):CO:=match P.underlying t with
 |some (.int k)=>if UE op=true then .op (Mg op (2+16*kc k) (cOp K x) (cOp K y))else match op with| .add=>.op (MK (2+16*kc k) (ay k 0) (ay k k.min) (ay k k.max) (cOp K x) (cOp K y))| .sub=>.op (KU (2+16*kc k) (ay k 0) (ay k k.min) (ay k k.max) (cOp K x) (cOp K y))|op=>.op (L6 op k (2+16*kc k) (cOp K x) (cOp K y))
 |some .string=>match op with| .eql=>.op (Eg false (cOp K x) (cOp K y))| .neq=>.op (Eg true (cOp K x) (cOp K y))| .add=>.op (LJ (cOp K x) (cOp K y))|_=>no
 |some .bool=>match op with| .eql=>.op (Me false (cOp K x) (cOp K y))| .neq=>.op (Me true (cOp K x) (cOp K y))|_=>no
 |some (.pointer el)=>match op,y with
  | .eql,.const (.pointer none)=>.op (kR false 4 5 5 (cOp K x))| .neq,.const (.pointer none)=>.op (kR true 4 5 5 (cOp K x))| .eql,y=>match P.info? el with|some i=>if i.size≠0 then .op (Lg false (cOp K x) (cOp K y))else no|none=>no
  | .neq,y=>match P.info? el with|some i=>if i.size≠0 then .op (Lg true (cOp K x) (cOp K y))else no|none=>no
  |_,_=>no
 |some (.slice _)=>match op,y with| .eql,.const (.slice none 0 _)=>.op (kR false 6 7 7 (cOp K x))| .neq,.const (.slice none 0 _)=>.op (kR true 6 7 7 (cOp K x))|_,_=>no
 |some (.func _ _ _)=>match op,y with| .eql,.const .nilFunc=>.op (kR false 25 10 15 (cOp K x))| .neq,.const .nilFunc=>.op (kR true 25 10 15 (cOp K x))|_,_=>no
 |some (.interface _)=>match op,y with| .eql,.const .nilIface=>.op (kR false 41 11 11 (cOp K x))| .neq,.const .nilIface=>.op (kR true 41 11 11 (cOp K x))|_,_=>no
 |some (.map _ _)=>match op,y with| .eql,.const (.map none)=>.op (kR false 9 8 8 (cOp K x))| .neq,.const (.map none)=>.op (kR true 9 8 8 (cOp K x))|_,_=>no
 |some (.struct fs)=>cSe P K op t fs x y|_=>no
def FJ(P:Program)(el:TypeId):Bool:=match P.underlying el with|some (.int .u8)=>true|_=>false
def Al(P:Program)(K:Kon)(s d:TypeId)(x:Operand):CO:=match P.underlying s,P.underlying d with|some _,some (.int k)=>.op (E8 k (cOp K x))|some .string,some .string=>.op λst=>sel (Nat.beq (Nat.mod (rd st.T (cOp K x)) 16) 3) (.ok (rd st.T (cOp K x)) st) .no|some .string,some (.slice el)=>if FJ P el=true then .op (K7 (cOp K x))else no|some (.slice el),some .string=>if FJ P el=true then .op (KL (cOp K x))else no|some (.slice el),some (.slice _)=>if FJ P el=true/\s=d then .op (LG (cOp K x))else no|_,_=>no
def zS(P:Program)(K:Kon)(b:Builtin)(a:Array TypeId)(args:List Operand):CO:=match b,args with
 | .len,[x]=>match a.toList with
  |[t]=>match P.underlying t with|some .string=>.op (LK (cOp K x))|some (.slice _)=>.op (SK (cOp K x))|some (.array n _)=>if n<16777216 then .op (LH n)else no|_=>no
  |_=>no
 | .append,[s,x]=>match a.toList with
  |[t,u]=>match P.underlying t,P.underlying u with
   |some (.slice el),some d=>match P.info? el with
    |some q=>match q.zero with|some z=>if(match d with| .string=>true| .slice _=>true|_=>false)=true/\z.cells.size=q.size/\eD K z.cells.toList=true/\0<q.size/\q.size<256/\q.bytes<=1048576 then .op (MG q.size (cOp K s) (cOp K x))else no|none=>no
    |none=>no
   |_,_=>no
  |_=>no
 | .copy,[d,x]=>match a.toList with
  |[t,u]=>match P.underlying t,P.underlying u with
   |some (.slice el),some (.slice _)=>match P.info? el with|some q=>if 0<q.size then .op (Lj q.size (cOp K d) (cOp K x))else no|none=>no
   |_,_=>no
  |_=>no
 | .max,[x,y]=>.op (LB true (cOp K x) (cOp K y))| .min,[x,y]=>.op (LB false (cOp K x) (cOp K y))|_,_=>no
def vV(P:Program)(K:Kon)(t:TypeId)(parts:Array (Nat×Operand)):CO:=match P.info? t with
 |some i=>match i.zero with
  | some z=>if eD K z.cells.toList=true/\z.cells.size<16777216 then(match P.underlying t with
    | some (.struct fs)=>if(fs.toList.all λf=>(P.info? f.type).isSome)=true then(match mW K (plS P fs) z.cells.size parts.toList with|some ps=>.op (Cu z.cells.size (bV K z.cells.toList) ps)|none=>no)else no|some (.array _ el)=>match P.info? el,P.underlying el with
     |some q,some d=>match mW K (λi=>some (i*q.size,q.size,gU d)) z.cells.size parts.toList with|some ps=>.op (Cu z.cells.size (bV K z.cells.toList) ps)|none=>no
     |_,_=>no
    |_=>no)else no|none=>no
 |none=>no
def zeros(z:Value)(n:Nat):Array Value:=(Array.range n).map (λi=>z.cells[i%z.cells.size]!)
def nO(P:Program)(K:Kon)(t:TypeId)(len:Nat)(parts:Array (Nat×Operand)):CO:=match P.underlying t with
 |some (.slice el)=>match P.info? el,P.underlying el with
  |some q,some d=>match q.zero with|some z=>if len=0/\parts.size=0 then .op L8 else if eD K (zeros z (len*q.size)).toList=true/\len*q.size<16777216/\len*q.size≠0/\len<16777216/\q.size<256 then(match mW K (λi=>some (i*q.size,q.size,gU d)) (len*q.size) parts.toList with|some ps=>.op (Cn len q.size (bV K (zeros z (len*q.size)).toList) ps)|none=>no)else no|none=>no
  |_,_=>no
 |_=>no
def wH(P:Program)(K:Kon)(t:TypeId)(x:Operand)(a hi b:Option Operand):CO:=match P.underlying t,b with
 |some (.slice el),none=>match P.info? el with|some i=>.op (MH i.size (cOp K x) (a.map (cOp K)) (hi.map (cOp K)))|none=>no
 |some (.slice el),some m=>match P.info? el,hi with|some _,some h=>.op (KE (cOp K x) (a.map (cOp K)) (some (cOp K h)) (some (cOp K m)))|_,_=>no
 |some (.array n el),none=>match P.info? el with|some i=>if n<16777216/\i.size<256 then .op (Lr n i.size (cOp K x) (a.map (cOp K)) (hi.map (cOp K)))else no|none=>no
 |some .string,none=>.op (Mf (cOp K x) (a.map (cOp K)) (hi.map (cOp K)))|_,_=>no
def vZ(P:Program)(K:Kon)(t:TypeId)(x y:Operand):CO:=match P.underlying t with
 |some .string=>.op (MO (cOp K x) (cOp K y))|some (.array n el)=>match P.info? el,P.underlying el with|some i,some d=>if gU d=false then .op (Tj n i.size (cOp K x) (cOp K y))else if i.size<16777216 then .op (Uj n i.size (cOp K x) (cOp K y))else no|_,_=>no
 |_=>no
def wJ(P:Program)(K:Kon)(t:TypeId)(x:Operand)(j:Nat):CO:=match P.underlying t with
 |some (.struct fs)=>match fs[j]? with
  |some f=>match P.info? f.type,P.underlying f.type with|some i,some d=>if gU d=false then .op (TY f.offset (cOp K x))else if i.size<16777216 then .op (SL f.offset i.size (cOp K x))else no|_,_=>no
  |none=>no
 |_=>no
def zOk(nv:Nat)(z:Value):Bool:=if nv=0 then z.oneCell' else match z with| .agg vs=>vs.size==nv|_=>false
def iF:TypeDesc->Nat| .string=>3| .int _=>2|_=>0
def uY(P:Program)(t:TypeId)(k:Nat->Nat->CO):CO:=match P.underlying t with
 |some (.map b el)=>match P.underlying b,P.info? el,P.underlying el with|some a,some i,some d=>if iF a=0 then no else if gU d=false then k (iF a) 0 else if 0<i.size/\i.size<256 then k (iF a) i.size else no|_,_,_=>no
 |_=>no
def oC(P:Program)(K:Kon)(o:Oper):CO:=match o.op with
 | .move x=>.op (tQ (cOp K x))| .assign x=>.op (tQ (cOp K x))| .pick c x y=>.op (FD (cOp K c) (cOp K x) (cOp K y))| .alloc t=>match P.info? t with
  |some i=>match i.zero with|some z=>if eD K z.cells.toList=true/\z.cells.size<16777216 then .op (uE z.cells.size (bV K z.cells.toList))else no|none=>no
  |none=>no
 | .box t x=>match P.underlying t with|some d=>if gU d=true then .op (KW (cOp K x))else .op (Sr (cOp K x))|none=>no
 | .build t parts=>vV P K t parts| .buildSlice t len parts=>nO P K t len parts| .load t x=>match P.underlying t,P.info? t with|some d,some i=>if gU d=false then .op (Gu (cOp K x))else if i.size<16777216 then .op (Ac i.size (cOp K x))else no|_,_=>no
 | .store t x y=>match P.underlying t,P.info? t with|some d,some i=>if gU d=false/\i.size=1 then .op (TQ (cOp K x) (cOp K y))else if 0<i.size then .op (LP i.size (cOp K x) (cOp K y))else no|_,_=>no
 | .nilCheck x=>.op (K9 (cOp K x))| .binOp op t x y _=>Gi P K op t x y| .unOp .not _ x=>.op (Km (cOp K x))| .unOp .neg t x=>match P.underlying t with|some (.int k)=>.op (LX k (2+16*kc k) (cOp K x))|_=>no
 | .convert s d x=>Al P K s d x| .makeInterface t x=>match P.underlying t with|some (.interface _)=>no|some _=>if t<1048576 then .op (Rp t (cOp K x))else no|none=>no
 | .makeFunc (.func f) first e=>if f<65536/\first.size<256/\e.size<256 then .op (RH f first.size e.size (first.toList.map (cOp K)++e.toList.map (cOp K)))else no| .makeMap t none=>uY P t λ_ nv=>.op (Q0 nv)| .insert t m k x=>uY P t λa nv=>.op (Eo a nv (cOp K m) (cOp K k) (cOp K x))| .mapUpdate t m k x=>uY P t λa nv=>.op (Eo a nv (cOp K m) (cOp K k) (cOp K x))| .lookup t m k true=>match P.underlying t with
  |some (.map _ el)=>match P.info? el with
   |some i=>match i.zero with|some z=>if eD K z.cells.toList=true then uY P t λa nv=>if zOk nv z=true then .op (TI a nv (bV K z.cells.toList) (cOp K m) (cOp K k))else no else no|none=>no
   |none=>no
  |_=>no
 | .lookup t m k false=>match P.underlying t with
  |some (.map _ el)=>match P.info? el with
   |some i=>match i.zero with|some z=>if eD K z.cells.toList=true then uY P t λa nv=>if zOk nv z=true then .op (KY a nv (bV K z.cells.toList) (cOp K m) (cOp K k))else no else no|none=>no
   |none=>no
  |_=>no
 | .makeSlice t l c=>match P.underlying t with
  |some (.slice el)=>match P.info? el with
   |some q=>match q.zero with|some z=>if q.bytes<=16777216/\0<q.size/\q.size<256/\z.cells.size=q.size/\eD K z.cells.toList=true then .op (Sz q.size (bV K z.cells.toList) (cOp K l) (cOp K c))else no|none=>no
   |none=>no
  |_=>no
 | .slice t x h hi p=>wH P K t x h hi p| .fieldAddr t x j=>match P.underlying t with
  |some (.struct fs)=>match fs[j]? with
   |some f=>match P.info? f.type with|some i=>if i.size≠0 then .op (Mi f.offset (cOp K x))else no|none=>no
   |none=>no
  |_=>no
 | .field t x j=>wJ P K t x j| .indexAddr t x y=>match P.underlying t with
  |some (.slice el)=>match P.info? el with|some i=>.op (Kz i.size (cOp K x) (cOp K y))|none=>no
  |some (.array n el)=>match P.info? el with|some i=>.op (Ka n i.size (cOp K x) (cOp K y))|none=>no
  |_=>no
 | .index t x y=>vZ P K t x y| .extract x j=>.op (QQ j (cOp K x))| .call {callee:=.builtin b,args,argTypes}=>zS P K b argTypes args.toList|_=>no
def cO(P:Program)(K:Kon)(o:Oper):CO:=match o.op with| .call {callee:=.value (.func f),args,.. }=>.call f (args.toList.map (cOp K))| .call {callee:=.value x,args,.. }=>.dyn (cOp K x) (args.toList.map (cOp K))| .defer {callee:=.value x,args,.. }=>.dfr (cOp K x) (args.toList.map (cOp K))|_=>oC P K o
def keep(w:Nat):Bool:=sel (Nat.beq (Nat.mod w 16) 12) true (Nat.beq (Nat.mod w 16) 13)
structure R3 where
 R:Nat
 n:Nat
 c:Nat
def cpT(b s R nR:Nat):Nat->Option R3:=λk=>Nat.rec (some ⟨R,nR,0⟩) (λk ih=>Option.rec none (λq=>R3.rec (λd a c=>fc (gt b (Nat.add s k)) λw=>sel (keep w) (sel (Nat.beq (Nat.mod w 16) 12) (sel (Nat.blt a 4294967296) (some ⟨ad d a (ch b (sa w) (ln w)),Nat.add a (ln w),ad c k (dY a (ln w))⟩) none) none) (some ⟨d,a,ad c k w⟩)) q) ih) k
def aad(w:Nat)(st s:St):RS:=St.rec (λT D R nR _ _ _ _=>St.rec (λ_ _ a _ M nM S nS=>sel (Nat.blt nR 4294967296)
 (.ok (dY nR (ln w)) ⟨T,D,ad R nR (ch a (sa w) (ln w)),Nat.add nR (ln w),M,nM,S,nS⟩) .no) s) st
def aau(w:Nat)(st s:St):RS:=St.rec (λT D R nR _ _ _ _=>St.rec (λ_ _ b _ M nM S nS=>Option.rec .no (λq=>R3.rec (λd a c=>sel (Nat.blt a 4294967296)
 (.ok (fJ a (ln w)) ⟨T,D,ad d a c,Nat.add a (ln w),M,nM,S,nS⟩) .no) q) (cpT b (sa w) R nR (ln w))) s) st
def YD(w:Nat)(st s:St):RS:=sel (Nat.beq (Nat.mod w 16) 12) (aad w st s) (aau w st s)
def Xk(w:Nat)(st s:St):RS:=St.rec (λT D R nR _ _ _ _=>St.rec (λ_ _ _ _ M nM S nS=>.ok w ⟨T,D,R,nR,M,nM,S,nS⟩) s) st
def small(w:Nat):Bool:=sel (Nat.beq (Nat.mod w 16) 1) true (Nat.beq (Nat.mod w 16) 2)
def aah(w:Nat)(st s:St):RS:=St.rec (λT D R nR M nM S nS=>St.rec (λ_ _ _ _ a b c d=>sel (Nat.beq nM b) (.ok w ⟨T,D,R,nR,a,b,c,d⟩)
 (sel (Nat.beq (Nat.land a (Nat.sub (Nat.pow 2 (Nat.mul 128 nM)) 1)) M) (.ok w ⟨T,D,R,nR,M,nM,S,nS⟩) (.ok w ⟨T,D,R,nR,a,b,c,d⟩))) s) st
def fin(st:St)(r:RS):RS:=RS.rec .no (λw s=>fc w λw=>sel (keep w) (YD w st s) (sel (small w) (aah w st s) (Xk w st s))) r
def calls(call:Nat->St->RS)(f n T:Nat)(st:St):RS:=fc T λT=>fin st (St.rec (λ_ _ R nR M nM S nS=>call f ⟨T,[(n,[])],R,nR,M,nM,S,nS⟩) st)
def dyn(call:Nat->St->RS)(w:Nat)(ws:List Nat)(st:St):RS:=sel (Nat.beq (Nat.mod w 16) 15) (calls call (Nat.div w 16) ws.length (dZ ws) st)
  (sel (Nat.beq (Nat.mod w 16) 10) (calls call (Nat.mod (Nat.div w 16) 65536) (Nat.add (Nat.add (Nat.mod (Nat.div w 1048576) 256) ws.length) (Nat.mod (Nat.div w 268435456) 256))
   (ad (ad (ch st.M (Nat.div w 68719476736) (Nat.mod (Nat.div w 1048576) 256)) (Nat.mod (Nat.div w 1048576) 256) (dZ ws)) (Nat.add (Nat.mod (Nat.div w 1048576) 256) ws.length)
    (ch st.M (Nat.add (Nat.div w 68719476736) (Nat.mod (Nat.div w 1048576) 256)) (Nat.mod (Nat.div w 268435456) 256))) st) .no)
def EA(w:Nat):Bool:=sel (Nat.beq (Nat.mod w 16) 10) true (Nat.beq (Nat.mod w 16) 15)
def rOp(st:St)(f:St->RS):RS:=f st
def Zo(call:Nat->St->RS)(st:St)(f:Nat)(l:List Opd):RS:=calls call f l.length (dZ (rds st.T l)) st
def Z4(call:Nat->St->RS)(st:St)(x:Opd)(l:List Opd):RS:=dyn call (rd st.T x) (rds st.T l) st
def aar(st:St)(x:Opd)(l:List Opd):RS:=sel (EA (rd st.T x)) (.ok 14 (setD ((rd st.T x,rds st.T l)::st.D) st)) .no
def kE(call:Nat->St->RS)(co:CO)(st:St):RS:=CO.rec (rOp st) (Zo call st) (Z4 call st) (aar st) co
def gd(T g:Nat):Option Bool:=sel (Nat.beq (gt T (Nat.div g 2)) 17) (some (Nat.beq (Nat.mod g 2) 1)) (sel (Nat.beq (gt T (Nat.div g 2)) 1) (some (Nat.beq (Nat.mod g 2) 0)) (sel (Nat.beq (gt T (Nat.div g 2)) 14) (some false) none))
def up1(T i w:Nat):Nat:=Nat.xor T (Nat.shiftLeft (Nat.xor (gt T i) w) (Nat.mul 128 i))
def Yl(i w:Nat)(st:St)(k:St->RS):RS:=St.rec (λT D R nR M nM S nS=>fc (up1 T i w) λT=>k ⟨T,D,R,nR,M,nM,S,nS⟩) st
def put(d:Option Nat)(w:Nat)(st:St)(k:St->RS):RS:=Option.rec (k st) (λi=>Yl i w st k) d
def Fh(call:Nat->St->RS)(d:Option Nat)(co:CO)(st:St)(k:St->RS):RS:=RS.rec .no (λw st=>put d w st k) (kE call co st)
def Qr(call:Nat->St->RS)(g:Nat)(d:Option Nat)(co:CO)(st:St)(k:St->RS):RS:=Option.rec .no (λb=>sel b (Fh call d co st k) (put d 14 st k)) (gd st.T g)
def xD(s:St)(x w:Nat):Bool:=sel (Nat.beq x w) true (sel (Nat.beq (Nat.mod w 16) 3) (sel (Nat.beq (Nat.mod x 16) 3) (zR s.S x w) false)
 (sel (Nat.beq (Nat.mod w 16) 12) (sel (Nat.beq (Nat.mod x 16) 12) (sel (Nat.beq (ln x) (ln w)) (Nat.beq (ch s.R (sa x) (ln x)) (ch s.R (sa w) (ln w))) false) false) false))
def Ah(call:Nat->St->RS)(d:Nat)(co:CO)(st:St)(k:St->RS):RS:=RS.rec .no (λx s=>sel (xD s x (gt st.T d)) (k st) .no) (kE call co st)
def aaf(call:Nat->St->RS)(g:Option Nat)(d:Nat)(co:CO)(st:St)(k:St->RS):RS:=Option.rec (Ah call d co st k) (λg=>Option.rec .no (λb=>sel b (Ah call d co st k) (sel (Nat.beq 14 (gt st.T d)) (k st) .no)) (gd st.T g)) g
abbrev Stp:=(Nat->St->RS)->(St->RS)->St->RS
def aaC(d t:Nat):Stp:=λ_ k st=>St.rec (λT D R nR M nM S nS=>k ⟨up1 T d (gt T t),D,R,nR,M,nM,S,nS⟩) st
def aas(d w:Nat):Stp:=λ_ k st=>St.rec (λT D R nR M nM S nS=>k ⟨up1 T d w,D,R,nR,M,nM,S,nS⟩) st
def Z9(f:St->RS):Stp:=λ_ k st=>RS.rec .no (λ_ st=>k st) (f st)
def pt1(d:Nat)(k:St->RS)(w:Nat)(st:St):RS:=St.rec (λT D R nR M nM S nS=>k ⟨up1 T d w,D,R,nR,M,nM,S,nS⟩) st
def kOp(d:Nat)(f:St->RS):Stp:=λ_ k st=>RS.rec .no (pt1 d k) (f st)
def aac(d:Option Nat)(co:CO):Stp:=λcall k st=>Fh call d co st k
def ZZ(g:Nat)(d:Option Nat)(co:CO):Stp:=λcall k st=>Qr call g d co st k
def YF(g:Option Nat)(d:Nat)(co:CO):Stp:=λcall k st=>aaf call g d co st k
def fB(call:Nat->St->RS)(l:List Stp):St->RS:=List.rec (λst=>.ok 0 st) (λs _ ih st=>s call ih st) l
def cGd(ops:Array Oper)(g:Nat×Bool):Option Nat:=match(ops[g.1]?).bind (·.dst)with|some s=>some (2*s+(if g.2 then 1 else 0))|none=>none
def XV(d:Option Nat)(co:CO):Option Stp:=match co,d with| .op f,some d=>some (kOp d f)| .op f,none=>some (Z9 f)|co,d=>some (aac d co)
def cMv(d:Nat)(x:Opd):Option Stp:=match x with| .s t=>some (aaC d t)| .c w=>some (aas d w)
def Kj(P:Program)(K:Kon)(ops:Array Oper)(o:Oper):Option Stp:=match o.guard with
 |none=>match o.op,o.dst with| .move x,some d=>cMv d (cOp K x)| .assign x,some d=>cMv d (cOp K x)|_,d=>XV d (cO P K o)
 |some g=>match cGd ops g with|some g=>some (ZZ g o.dst (cO P K o))|none=>none
def Ca(P:Program)(K:Kon)(ops:Array Oper):List Oper->Option (List Stp)|[]=>some []|o::l=>match Kj P K ops o,Ca P K ops l with|some s,some r=>some (s::r)|_,_=>none
structure OI where
 q:Bool
 pre:List Nat
 dst:Option Nat
 lk:List Nat
def ZR:Op->Bool| .assign _=>true|_=>false
def bS(P:Program)(ops:Array Oper)(o:Oper):OI:=⟨dC P o.op&&!ZR o.op&&o.dst.isSome,(o.after.toList.filter (Region.binds .any)).map (·.on),o.dst,o.looksAt ops⟩
def oi0:OI:=⟨false,[],none,[]⟩
def bE(a:List OI)(i:Nat):OI:=a.getD i oi0
structure lI where
 e:Nat
 fl:List Nat
 ck:List Nat
 anc:List Nat
inductive Itm where|run(i:Nat)|chk(i:Nat)
def kN:List lI->List Itm|[]=>[]|s::r=>.run s.e::(s.fl.map .run++(s.ck.map .chk++kN r))
def vS(l D:List Nat):Bool:=l.all λj=>D.contains j
def floats:List OI->Nat->List Nat->List Nat->List Nat×List Nat|[],_,D,out=>(D,out.reverse)|x::l,i,D,out=>if x.q&&!D.contains i&&vS x.pre D then floats l (i+1) (i::D) (i::out)else floats l (i+1) D out
def Md(a:Option Nat):List OI->Nat->List Nat->Option Nat|[],_,_=>none|x::l,i,D=>if !D.contains i&&!decide (a=some i)&&vS x.pre D then some i else Md a l (i+1) D
def TD(a:List OI)(e:Nat):Nat->List Nat->List Nat|0,A=>A.reverse|i+1,A=>if(bE a e).pre.contains i||A.any (λj=>(bE a j).pre.contains i)then TD a e i (i::A)else TD a e i A
def Ox(a:List OI)(ac:Option Nat):Nat->List Nat->List Nat->List lI|0,_,_=>[]|n+1,D,A=>match(Md ac a 0 D).or (Md none a 0 D)with|none=>[]|some e=>match floats a 0 (e::D) []with|(c,fl)=>let d:=TD a e a.length [];let b:=d++A;⟨e,fl,c.filter (λi=>(bE a i).q&&!b.contains i),d⟩::Ox a ac n c b
structure bY where
 ac:Option Nat
 fl:List Nat
 ck:List Nat
 st:List lI
def Am(a:List OI)(ac:Option Nat):bY:=match floats a 0 [] []with|(D,fl)=>⟨ac,fl,fl,Ox a ac a.length D []⟩
def Zm(p:bY):List Itm:=p.fl.map .run++(p.ck.map .chk++kN p.st)
def ltO(n:Nat):Option Nat->Bool|some d=>Nat.blt d n|none=>true
def KG(a:List OI)(e:Nat):List Nat->List Nat->Bool|_,[]=>true|seen,j::l=>((bE a e).pre.contains j||seen.any λi=>(bE a i).pre.contains j)&&KG a e (j::seen) l
def stB(a:List OI)(ac:Option Nat)(N n:Nat):List Nat->List Nat->List lI->Bool|D,_,[]=>(List.range N).all λi=>D.contains i|D,A,s::r=>!D.contains s.e&&Nat.blt s.e N&&((List.range N).all λi=>D.contains i||Nat.beq i s.e||decide (ac=some i)||(bE a i).pre.any λj=>!D.contains j&&(Nat.beq j s.e||!decide (ac=some j)))&&ltO n (bE a s.e).dst&&KG a s.e [] s.anc&&(s.fl.all λi=>Nat.blt i N&&(bE a i).q&&!D.contains i&&!Nat.beq i s.e&&!decide (ac=some i))&&(s.ck.all λi=>Nat.blt i N)&&((s.fl++s.e::D).all λi=>Nat.beq i s.e||!(bE a i).q||s.ck.contains i||(s.anc++A).contains i)&&vS (bE a s.e).pre D&&(s.fl.all λi=>vS (bE a i).pre (s.fl++s.e::D))&&stB a ac N n (s.fl++s.e::D) (s.anc++A) r
def glB(a:List OI)(ac:Option Nat)(N n:Nat):Bool:=(List.range N).all λi=>((List.range N).all λj=>(!(bE a j).q&&!decide (ac=some j))||((Nat.beq i j||!decide ((bE a i).dst=(bE a j).dst))&&((bE a i).lk.all λt=>!decide ((bE a j).dst=some t)||(bE a i).pre.contains j)))&&ltO n (bE a i).dst&&(bE a i).pre.all λj=>Nat.blt j i
def Ej(a:List OI)(N n:Nat)(p:bY):Bool:=glB a p.ac N n&&(p.fl.all λi=>Nat.blt i N&&(bE a i).q)&&(p.ck.all λi=>Nat.blt i N)&&(p.fl.all λi=>p.ck.contains i)&&(p.fl.all λi=>vS (bE a i).pre p.fl)&&stB a p.ac N n p.fl [] p.st
def acC(o:Oper):Bool:=o.guard.isNone&&o.dst.isSome&&match o.op with| .alloc _=>true| .buildSlice _ 1 ⟨[(0,.const _)]⟩=>true|_=>false
def acO(P:Program)(K:Kon)(o:Oper):Bool:=acC o&&match o.op with
 | .alloc t=>(P.info? t).any λi=>i.zero.any λz=>eD K z.cells.toList&&decide (z.cells.size<16777216)| .buildSlice t 1 ⟨[(0,.const v)]⟩=>match P.underlying t with
  |some (.slice el)=>match P.info? el,P.underlying el with|some q,some d=>q.zero.isSome&&Nat.beq q.size 1&&!gU d&&fU (cV K v)|_,_=>false
  |_=>false
 |_=>false
def acB(P:Program)(K:Kon)(ops:Array Oper):Option Nat->Bool|none=>true|some i=>match ops[i]? with|some o=>acO P K o|none=>false
def acs:List Oper->Nat->List Nat|[],_=>[]|o::l,i=>if acC o=true then i::acs l (i+1)else acs l (i+1)
def M5(a:List OI)(N n:Nat):List Nat->bY|[]=>⟨none,[],[],[]⟩|i::l=>if Ej a N n (Am a (some i))=true then Am a (some i)else M5 a N n l
def XJ(a:List OI)(N n:Nat)(l:List Nat):bY:=if Ej a N n (Am a none)=true then Am a none else M5 a N n l
def GH(P:Program)(K:Kon)(ops:Array Oper):Itm->Option Stp
 | .run i=>match ops[i]? with|some o=>Kj P K ops o|none=>none
 | .chk i=>match ops[i]? with
  |some o=>match o.dst,o.guard with
   |some d,none=>some (YF none d (cO P K o))|some d,some g=>match cGd ops g with|some g=>some (YF (some g) d (cO P K o))|none=>none
   |none,_=>none
  |none=>none
def iO(P:Program)(K:Kon)(ops:Array Oper):List Itm->Option (List Stp)|[]=>some []|x::l=>match GH P K ops x,iO P K ops l with|some s,some r=>some (s::r)|_,_=>none
inductive MC where|skip|bad|reg(l:List Stp)|seq(a b:MC)|cond(c:Opd)(a b:MC)|block(id:Nat)(b:MC)|loop(b:MC)|exit(id:Nat)|ret
def lM(P:Program)(K:Kon)(ops:Array Oper)(p:bY):MC:=match iO P K ops (Zm p)with|some l=>.reg l|none=>.bad
def zu(P:Program)(K:Kon)(n:Nat)(ops:Array Oper)(p:bY):Bool:=acB P K ops p.ac&&Ej (ops.toList.map (bS P ops)) ops.size n p
def Ay(P:Program)(K:Kon)(n:Nat)(ops:Array Oper):MC:=let p:=XJ (ops.toList.map (bS P ops)) ops.size n (acs ops.toList 0);if zu P K n ops p=true then lM P K ops p else .bad
def Li(n:Nat)(ops:Array Oper):Bool:=ops.toList.all λo=>ltO n o.dst
def gz(P:Program)(K:Kon)(X:Nat->Option bY)(n:Nat):Code->MC| .skip=>.skip| .region id ops d=>if d=true then(match X id with|some p=>lM P K ops p|none=>Ay P K n ops)else if Li n ops=true then(match Ca P K ops ops.toList with|some l=>.reg l|none=>.bad)else .bad| .seq a b=>.seq (gz P K X n a) (gz P K X n b)| .cond c a b=>.cond (cOp K c) (gz P K X n a) (gz P K X n b)| .block id b=>.block id (gz P K X n b)| .loop b=>.loop (gz P K X n b)| .exit id=>.exit id| .ret=>.ret|_=>.bad
def okX(P:Program)(K:Kon)(X:Nat->Option bY)(n:Nat):Code->Bool| .region id ops d=>if d=true then(match X id with|some p=>zu P K n ops p|none=>true)else true| .seq a b=>okX P K X n a&&okX P K X n b| .cond _ a b=>okX P K X n a&&okX P K X n b| .block _ b=>okX P K X n b| .loop b=>okX P K X n b|_=>true
def RA(ih:MC->St->RS)(a b:MC)(st:St):RS:=RS.rec .no (λx st=>sel (Nat.beq x 0) (ih b st) (.ok x st)) (ih a st)
def KM(ih:MC->St->RS)(c:Opd)(a b:MC)(st:St):RS:=sel (Nat.beq (rd st.T c) 17) (ih a st) (sel (Nat.beq (rd st.T c) 1) (ih b st) .no)
def Qn(ih:MC->St->RS)(id:Nat)(b:MC)(st:St):RS:=RS.rec .no (λx st=>sel (Nat.beq x (Nat.add id 2)) (.ok 0 st) (.ok x st)) (ih b st)
def MF(ih:MC->St->RS)(b:MC)(st:St):RS:=RS.rec .no (λx st=>sel (Nat.beq x 0) (ih (.loop b) st) (.ok x st)) (ih b st)
def Fx(call:Nat->St->RS)(l:List Stp)(st:St):RS:=RS.rec .no (λ_ st=>.ok 0 st) (fB call l st)
def iM(call:Nat->St->RS):Nat->MC->St->RS:=λn=>Nat.rec (λ_ _=>.no) (λ_ ih m st=>MC.rec (.ok 0 st) .no (λl=>Fx call l st) (λa b _ _=>RA ih a b st) (λc a b _ _=>KM ih c a b st) (λid b _=>Qn ih id b st) (λb _=>MF ih b st)
  (λid=>.ok (Nat.add id 2) st) (.ok 1 st) m) n
inductive RV where|tmp(t:Nat)|cell(x:Opd)|row(n:Nat)(x:Opd)
def Gj(r:RV)(st:St):RS:=RV.rec (λt=>.ok (gt st.T t) st) (λx=>Gu x st) (λn x=>Ac n x st) r
def QD(l:List RV):St->List Nat->RS:=List.rec (λst a=>sel (Nat.blt st.nR 4294967296) (sel (Nat.blt a.length 16777216) (fc (ad st.R st.nR (dZ a.reverse)) λR=>.ok (fJ st.nR a.length) (setR R (Nat.add st.nR a.length) st)) .no) .no)
 (λr _ ih st a=>RS.rec .no (λw st=>fc w λw=>ih st (w::a)) (Gj r st)) l
def res(l:List RV)(st:St):RS:=List.rec (.ok 14 st) (λr q _=>List.rec (Gj r st) (λ_ _ _=>QD l st []) q) l
def iU(P:Program)(K:Kon):List ResultVar->Option (List RV)|[]=>some []| .tmp t::l=>(iU P K l).map (.tmp t:: ·)| .cell a t::l=>match P.underlying t,P.info? t,iU P K l with|some d,some i,some r=>if gU d=false then some (.cell (.s a)::r)else if i.size<16777216 then some (.row i.size (.s a)::r)else none|_,_,_=>none
structure Fun where
 code:MC
 res:List RV
def zM(P:Program)(K:Kon)(X:Nat->Nat->Option bY)(f:Nat):Option Fun:=match P.funcs[f]? with
 |some fn=>match fn.body,iU P K fn.results.toList with|some c,some r=>if fn.name== "runtime.NumGoroutine" then none else some ⟨gz P K (X f) fn.ntmps c,r⟩|_,_=>none
 |none=>none
def yP(call:Nat->St->RS)(dk:Nat->Bool):List (Nat×List Nat)->St->RS:=λl=>List.rec (λst=>.ok 0 st) (λd _ ih st=>Prod.rec (λw ws=>sel (dk w) (sel (Nat.beq ws.length 0) (ih st) .no) (RS.rec .no (λ_ st=>ih st) (dyn call w ws st))) d) l
def noD(k:St->RS)(st:St):RS:=St.rec (λT _ R nR M nM S nS=>k ⟨T,[],R,nR,M,nM,S,nS⟩) st
def xZ(P:Program)(K:Kon)(X:Nat->Nat->Option bY)(call:Nat->St->RS)(fuel f:Nat)(st:St):RS:=Option.rec .no (λF=>Fun.rec (λcode a=>RS.rec .no (λx st=>sel (Nat.ble x 1) (List.rec (res a st) (λ_ _ _=>.no) st.D) .no) (noD (iM call fuel code) st)) F) (zM P K X f)
def kC(P:Program)(K:Kon)(X:Nat->Nat->Option bY)(hk:Nat->Option (St->RS))(dk:Nat->Bool)(fuel:Nat):Nat->Nat->St->RS:=λn=>Nat.rec (λ_ _=>.no) (λ_ ih f st=>Option.rec (Option.rec .no (λF=>Fun.rec (λcode a=>RS.rec .no (λx st=>sel (Nat.ble x 1) (RS.rec .no (λ_ st=>res a st) (yP (xZ P K X ih fuel) dk st.D (setD [] st))) .no)
  (noD (iM ih fuel code) st)) F) (zM P K X f)) (λh=>h st) (hk f)) n
end Ev
namespace Ev
def jn(S M a b:Nat)(n:Nat):Nat->Option Src:=λk=>Nat.rec (some ⟨0,0⟩) (λk ih=>Option.rec none (λq=>Src.rec (λl c=>fc (gt M (Nat.add a (Nat.sub (Nat.sub n k) 1))) λw=>sel (Nat.beq (Nat.mod w 16) 3)
  (sel (Nat.beq k 0) (some ⟨ln w,chS S (sa w) (ln w)⟩)
   (fc (adS (chS S (sa w) (ln w)) (ln w) (adS (chS S (sa b) (ln b)) (ln b) c)) λc=>some ⟨Nat.add (ln w) (Nat.add (ln b) l),c⟩)) none) q) ih) k
def two(st:St)(r:RS):RS:=List.rec .no (λq _ _=>Prod.rec (λn _=>sel (Nat.beq n 2) r .no) q) st.D
def Uv(st:St):RS:=two st<|sel (Nat.beq (Nat.mod (gt st.T 1) 16) 3) (sel (Nat.beq (Nat.mod (gt st.T 0) 16) 7) (sel (Nat.beq (se (gt st.T 0)) 1) (sel (Nat.blt st.nS 4294967296)
  (Option.rec .no (λq=>Src.rec (λl c=>sel (Nat.blt l 16777216) (fc (adS st.S st.nS c) λS=>.ok (dE st.nS l) (setS S (Nat.add st.nS l) st)) .no) q)
   (jn st.S st.M (Nat.add (ps (gt st.T 0)) (so (gt st.T 0))) (gt st.T 1) (sl (gt st.T 0)) (sl (gt st.T 0)))) .no) .no) .no) .no
def ixb(S a n b:Nat):Nat->Nat:=λk=>Nat.rec 0 (λk ih=>sel (Nat.beq (aH S (Nat.add a (Nat.sub (Nat.sub n k) 1))) b) (Nat.sub n k) ih) k
def Xw(st:St):RS:=two st<|sel (Nat.beq (Nat.mod (gt st.T 0) 16) 3) (sel (Nat.beq (Nat.mod (gt st.T 1) 256) 66) (sel (Nat.blt (ixN (gt st.T 1)) 256)
  (.ok (Nat.sub (Nat.add 2361183241434822606898 (Nat.mul 256 (ixb st.S (sa (gt st.T 0)) (ln (gt st.T 0)) (ixN (gt st.T 1)) (ln (gt st.T 0))))) 256) st) .no) .no) .no
def cnb(S a b:Nat):Nat->Nat:=λk=>Nat.rec 0 (λk ih=>sel (Nat.beq (aH S (Nat.add a k)) b) (Nat.succ ih) ih) k
def XQ(st:St):RS:=two st<|sel (Nat.beq (Nat.mod (gt st.T 0) 16) 3) (sel (Nat.beq (Nat.mod (gt st.T 1) 256) 66) (sel (Nat.blt (ixN (gt st.T 1)) 256)
  (.ok (Nat.add 2361183241434822606898 (Nat.mul 256 (cnb st.S (sa (gt st.T 0)) (ixN (gt st.T 1)) (ln (gt st.T 0))))) st) .no) .no) .no
end Ev
namespace Ev
def K0:Kon:=⟨2762339256381217755375927550850903761485978195364121263841804998752810003670104861585219555074601841658443762626249030733607727151879818239298685043721547365514949416416245512328048301367290779123685002918818118152631876341127871066526638544009046552877854453027451852273662944980196176548023604299952852450860695483326994397549481768840321296228187106949192983870034553286390572752824422727462421511441235230791842930249988598912116656182157091678796613553676913646184494977245010783228538701900128821982707589004038662456110934547345795971740164023615306172818638069032346113782146359066626733220726302733515174059105297164640626087461684391865264463652322704411347827312981143777072327964246701609527193486790632615500873518937572264678044186941353155991577440016981936110705782647153335336765377931707943138616847756368539411069868457793831448270628186762525398571828464653213277336987593826975424273106126002104108045964075927341332719549091972756570637926735924008613038723443637462773953497614064318934604156367342920503218005635346934198965440931858935493898431073320439123871832839546232619606466366855111403455990775115002825970620143815001504592279131813413343658493233962046146888094059968027427172247200076947550713374856750625470613290697231043077517584361727415807254712337466532681193712159683242220147123401530963184665584258171134072093021507434912797806977931584811451144447714533085203627965081634201154579036224848211203382253282140183950274222315638487161018771869320987806535109231361128359984272319391811596525561885841388982119496444142423265091911306349461493948205164966957421805564881684014137634325388820415408076395152116062647083518216773610915780486437258856606501030588527783593311519947906819621710881651784394253588912600645680710826959099221082297624473138163236295476485061521450188087330436813678867596971895523460970454852035952018361134271676193915042860006312765486761193071406109866894193941841598493556656329475348246153758656631421264545475896470924177456,830,[0,200,266,318,370,414,454,494,534,570,606,642,675,703,731,753,772,790,255,233,799,803,525,807,205,811,814,817,225,214,820,822,824,826,673,670,651,648,645,828,248,256,220,274,204,253,212,759,210,209,223,377,375],λ_=>undef⟩
def hk(f:Nat):Option (St->RS):=sel (Nat.beq f 239) (some Uv) (sel (Nat.beq f 303) (some Xw) (sel (Nat.beq f 319) (some XQ) none))
def dk(w:Nat):Bool:=sel (Nat.beq (Nat.mod w 16) 10) (sel (Nat.beq (Nat.mod (Nat.div w 16) 65536) 163) (sel (Nat.beq (Nat.mod (Nat.div w 1048576) 256) 0) (Nat.beq (Nat.mod (Nat.div w 268435456) 256) 3) false) false) false
end Ev
namespace Ev
section
variable {P:Program}{K:Kon}{o:Oper}{f:St->RS}
def sV:OpV P K o nop:=λg st a w x st' _ _ _ e=>by cases e
def ax(h:no=CO.op f):OpV P K o f:=by injection h with h;subst h;exact sV
def co_op{a:St->RS}(h:CO.op a=CO.op f):a=f:=by injection h
def V3{op:BinOp}{t u:TypeId}{x y:Operand}(ho:o.op=.binOp op t x y u)(h:Gi P K op t x y=.op f):OpV P K o f:=by
 unfold Gi at h;split at h
 ·split at h;·rename_i hc;rw[<-co_op h];exact Qs ho hc
  ·split at h;·rw[<-co_op h];exact Qm ho
   ·rw[<-co_op h];exact Ty ho
   ·rw[<-co_op h];exact Sl ho
 ·split at h;·rw[<-co_op h];exact Hf false ho
  ·rw[<-co_op h];exact Hf true ho
  ·rw[<-co_op h];exact SV ho
  ·exact ax h
 ·rename_i ht;split at h;·rw[<-co_op h];exact Jf false ho ht
  ·rw[<-co_op h];exact Jf true ho ht
  ·exact ax h
 ·rename_i el ht;split at h;·rw[<-co_op h];exact EH false ho ht
  ·rw[<-co_op h];exact EH true ho ht
  ·split at h
   ·rename_i i hi;split at h;·rename_i hz;rw[<-co_op h];exact Ju false ho ht hi hz
    ·exact ax h
   ·exact ax h
  ·split at h
   ·rename_i i hi;split at h;·rename_i hz;rw[<-co_op h];exact Ju true ho ht hi hz
    ·exact ax h
   ·exact ax h
  ·exact ax h
 ·rename_i ht;split at h;·rw[<-co_op h];exact Ht false ho ht
  ·rw[<-co_op h];exact Ht true ho ht
  ·exact ax h
 ·rename_i ht;split at h;·rw[<-co_op h];exact FK false ho ht
  ·rw[<-co_op h];exact FK true ho ht
  ·exact ax h
 ·rename_i ht;split at h;·rw[<-co_op h];exact FO false ho ht
  ·rw[<-co_op h];exact FO true ho ht
  ·exact ax h
 ·rename_i ht;split at h;·rw[<-co_op h];exact Ff false ho ht
  ·rw[<-co_op h];exact Ff true ho ht
  ·exact ax h
 ·rename_i ht;unfold cSe at h;split at h
  ·rename_i l i hl hi;split at h;·rename_i hc;rw[<-co_op h];exact Js false ho ht hc.1 hc.2.1 hl hc.2.2
   ·exact ax h
  ·rename_i l i hl hi;split at h;·rename_i hc;rw[<-co_op h];exact Js true ho ht hc.1 hc.2.1 hl hc.2.2
   ·exact ax h
  ·exact ax h
 ·exact ax h
def BV{el:TypeId}(h:FJ P el=true):P.underlying el=some (.int .u8):=by
 unfold FJ at h;split at h;·assumption
 ·cases h
def QW{s d:TypeId}{x:Operand}(ho:o.op=.convert s d x)(h:Al P K s d x=.op f):OpV P K o f:=by
 unfold Al at h;split at h;·rename_i hs hd;rw[<-co_op h];exact OE ho hs hd
 ·rename_i hs hd;rw[<-co_op h];exact Pb ho hs hd
 ·rename_i hs hd;split at h;·rename_i hu;rw[<-co_op h];exact QV ho hs hd (BV hu)
  ·exact ax h
 ·rename_i hs hd;split at h;·rename_i hu;rw[<-co_op h];exact Rn ho hs (BV hu) hd
  ·exact ax h
 ·rename_i hs hd;split at h;·rename_i hu;obtain⟨hu,e⟩:=hu;subst e;rw[<-co_op h];exact Rc ho hs (BV hu)
  ·exact ax h
 ·exact ax h
def Yf{α:Type}{a:Array α}{x:α}(h:a.toList=[x]):a=#[x]:=by rw[<-jzp (xs:=a),h]
def Cv{α:Type}{a:Array α}{x y:α}(h:a.toList=[x,y]):a=#[x,y]:=by rw[<-jzp (xs:=a),h]
def QC{b:Builtin}{e:Array TypeId}{args:Array Operand}(ho:o.op=.call {callee:=.builtin b,args:=args,argTypes:=e})(h:zS P K b e args.toList=.op f):OpV P K o f:=by
 unfold zS at h;split at h
 ·rename_i x ha;have ha:=Yf ha;subst ha;split at h
  ·rename_i t ht;have ht:=Yf ht;subst ht;split at h;·rename_i hu;rw[<-co_op h];exact TW ho hu
   ·rename_i hu;rw[<-co_op h];exact Wu ho hu
   ·rename_i hu;split at h;·rename_i hn;rw[<-co_op h];exact RN ho hu hn
    ·exact ax h
   ·exact ax h
  ·exact ax h
 ·rename_i s x ha;have ha:=Cv ha;subst ha;split at h
  ·rename_i t u ht;have ht:=Cv ht;subst ht;split at h
   ·rename_i el d hu hd;split at h
    ·rename_i q a;split at h
     ·rename_i z hz;split at h
      ·split at h;·rename_i hc;obtain⟨_,c2,c3,c4,c5,c6⟩:=hc;rw[<-co_op h];exact Hg ho hu hd (.inl rfl) a hz c2 c3 c4 c5 c6
       ·exact ax h
      ·split at h;·rename_i hc;obtain⟨_,c2,c3,c4,c5,c6⟩:=hc;rw[<-co_op h];exact Hg ho hu hd (.inr ⟨_,rfl⟩) a hz c2 c3 c4 c5 c6
       ·exact ax h
      ·rw[qzc (λc=>by cases c.1)]at h;exact ax h
     ·exact ax h
    ·exact ax h
   ·exact ax h
  ·exact ax h
 ·rename_i d x ha;have ha:=Cv ha;subst ha;split at h
  ·rename_i t u ht;have ht:=Cv ht;subst ht;split at h
   ·rename_i hu hd;split at h
    ·rename_i q a;split at h;·rename_i h0;rw[<-co_op h];exact Q3 ho hu a h0
     ·exact ax h
    ·exact ax h
   ·exact ax h
  ·exact ax h
 ·rename_i x y ha;have ha:=Cv ha;subst ha;rw[<-co_op h];exact Jn true ho
 ·rename_i x y ha;have ha:=Cv ha;subst ha;rw[<-co_op h];exact Jn false ho
 ·exact ax h
def O6{t:TypeId}{parts:Array (Nat×Operand)}(ho:o.op=.build t parts)(h:vV P K t parts=.op f):OpV P K o f:=by
 unfold vV at h;split at h
 ·rename_i i hi;split at h
  ·rename_i z hz;split at h
   ·rename_i hc;split at h
    ·rename_i fs ht;split at h
     ·rename_i ha;split at h;·rename_i ps a;rw[<-co_op h];refine Sj ho ht hi hz hc.1 hc.2 (λf hf=>?_) a;rw[qqw]at ha;exact ha f (by simpa using hf)
      ·exact ax h
     ·exact ax h
    ·rename_i n el ht;split at h
     ·rename_i q d b hd;split at h;·rename_i ps a;rw[<-co_op h];exact Tt ho ht hi hz b hc.1 hc.2 a
      ·exact ax h
     ·exact ax h
    ·exact ax h
   ·exact ax h
  ·exact ax h
 ·exact ax h
def Mc{t:TypeId}{len:Nat}{parts:Array (Nat×Operand)}(ho:o.op=.buildSlice t len parts)(h:nO P K t len parts=.op f):OpV P K o f:=by
 unfold nO at h;split at h
 ·rename_i el ht;split at h
  ·rename_i q d b hd;split at h
   ·rename_i z hz;split at h;·rename_i hc;obtain⟨hl,a⟩:=hc;subst hl;rw[<-co_op h];exact QX ho ht b (jjk a)
    ·split at h
     ·rename_i hc;obtain⟨c1,c2,c3,c4,c5⟩:=hc;split at h;·rename_i ps a;rw[<-co_op h];exact WO ho ht b hz rfl c1 c2 c3 c4 c5 a
      ·exact ax h
     ·exact ax h
   ·exact ax h
  ·exact ax h
 ·exact ax h
def M3{t:TypeId}{x:Operand}{b hi c:Option Operand}(ho:o.op=.slice t x b hi c)(h:wH P K t x b hi c=.op f):OpV P K o f:=by
 unfold wH at h;split at h
 ·rename_i el ht;split at h;·rename_i i a;rw[<-co_op h];exact Ua ho ht a
  ·exact ax h
 ·rename_i el m ht;split at h;·rename_i i a;rw[<-co_op h];exact Qh ho ht a
  ·exact ax h
 ·rename_i n el ht;split at h
  ·rename_i i a;split at h;·rename_i hc;rw[<-co_op h];exact TJ ho ht a hc.1 hc.2
   ·exact ax h
  ·exact ax h
 ·rename_i ht;rw[<-co_op h];exact Qj ho ht
 ·exact ax h
def Lx{d:TypeDesc}(h:¬gU d=false):gU d=true:=by cases e:gU d<;>simp_all
def Nz{t:TypeId}{x y:Operand}(ho:o.op=.index t x y)(h:vZ P K t x y=.op f):OpV P K o f:=by
 unfold vZ at h;split at h;·rename_i ht;rw[<-co_op h];exact RJ ho ht
 ·rename_i n el ht;split at h
  ·rename_i i d hi hd;split at h;·rename_i ha;rw[<-co_op h];exact VV ho ht hi hd ha
   ·rename_i ha;split at h;·rename_i hn;rw[<-co_op h];exact WY ho ht hi hd (Lx ha) hn
    ·exact ax h
  ·exact ax h
 ·exact ax h
def MX{t:TypeId}{x:Operand}{j:Nat}(ho:o.op=.field t x j)(h:wJ P K t x j=.op f):OpV P K o f:=by
 unfold wJ at h;split at h
 ·rename_i fs ht;split at h
  ·rename_i a hf;split at h
   ·rename_i i d hi hd;split at h;·rename_i ha;rw[<-co_op h];exact VL ho ht hf hd ha
    ·rename_i ha;split at h;·rename_i hn;rw[<-co_op h];exact WV ho ht hf hd (Lx ha) hi hn
     ·exact ax h
   ·exact ax h
  ·exact ax h
 ·exact ax h
end
end Ev
namespace Ev
def bytes_beq(a b:ByteArray):(a==b)=true↔a=b:=by
 obtain⟨x⟩:=a;obtain⟨y⟩:=b;constructor
 ·intro h;have e:x=y:=by simpa using(show(x==y)=true from h)
  rw[e]
 ·intro h;cases h;show(x==x)=true;simp
def get_map{P:Program}{w:World}{r:Nat}{b:Array MapEntry}{a:Nat}(c:w.heap[r]? =some (.map b a)):(getObj r).run P w=.ok (.map b a) w:=by simp[getObj,Sem.run,c]
def UM{P:Program}{w:World}{r:Nat}{b:Array MapEntry}{a:Nat}(o:Obj)(c:w.heap[r]? =some (.map b a)):(setObj r o).run P w=.ok () {w with heap:=w.heap.setIfInBounds r o}:=by simp[setObj,Sem.run,c]
def Ik{P:Program}{w:World}{b:TypeId}{d:TypeDesc}{k:Value}{l:List MapEntry}{a:Option (Nat×Value)}(hd:P.underlying b=some d)(h:Instr.findNow d k l 0=some a):(Instr.findKey b k l).run P w=.ok a w:=by simp[Instr.findKey,jqa hd,h]
def Tz{k:IntKind}{a b:Int}(ha: -9223372036854775808<=a)(c: -9223372036854775808<=b)(h:ay k a=ay k b):a=b:=by rw[<-qC k a ha,<-qC k b c,h]
def O7{a:TypeDesc}(h:iF a=3):a=.string:=by cases a<;>first|rfl|(simp[iF]at h)
def Xx{a:TypeDesc}(h:iF a=2):∃k,a=.int k:=by cases a<;>first|exact⟨_,rfl⟩|(simp[iF]at h)
def XA{g:Gh}{x y:Nat}{k a:Value}{l:TypeDesc}{b:Bool}(c:VR g x k)(d:VR g y a)(ht:x%16=iF l)(e:kEq g.S x y=some b):Instr.sameNow l k a=some b:=by unfold kEq at e;cases h1:Nat.beq (Nat.mod x 16) 3 with
 |true=>rw[h1,aj]at e;have h1:x%16=3:=ah h1;have hk:=O7 (ht▸h1);subst hk;cases h2:Nat.beq (Nat.mod y 16) 3 with|false=>rw[h2,ag]at e;cases e|true=>rw[h2,aj]at e;have h2:y%16=3:=ah h2;obtain⟨m,p,_⟩:=(TR.cell (R:=0) (nR:=0) x k c).str h1;obtain⟨b1,b2,_⟩:=(TR.cell (R:=0) (nR:=0) y a d).str h2;rw[yU m b1]at e;injection e with e;subst p;subst b2;subst e;simp only[Instr.sameNow];congr 1;rw[qzd,bytes_beq,qqu]
 |false=>rw[h1,ag]at e;cases h2:Nat.beq (Nat.mod x 16) 2 with|false=>rw[h2,ag]at e;cases e|true=>rw[h2,aj]at e;have h2:x%16=2:=ah h2;obtain⟨s,hk⟩:=Xx (ht▸h2);subst hk;cases h3:Nat.beq (Nat.mod x 256) (Nat.mod y 256)with|false=>rw[h3,ag]at e;cases e|true=>rw[h3,aj]at e;have h3:x%256=y%256:=ah h3;injection e with e;obtain⟨j,n,rfl,rfl,r,v⟩:=c.jB h2;obtain⟨i,u,rfl,rfl,q,t⟩:=d.jB oqo;have:=jy j;have:=jy i;rw[uN,uN]at h3;have hj:j=i:=xu oqo;subst hj;simp only[Instr.sameNow,qzb];rw[<-e];congr 1;rw[qzd,jzb];exact⟨λh=>by rw[h];exact Nat.beq_refl _,λh=>Tz r q (ah h)⟩
def zn{g:Gh}{M s str x c j:Nat}{k:Value}{p:TypeDesc}{a:List MapEntry}(m:VR g x k)(ht:x%16=iF p)(hc:a.length=c)(hv:∀i(h:i<a.length),VR g (gt M (s+i*str)) a[i].key): ∀n,n<=c->oO g.S M s str x c n=some j->j<=c/\Instr.findNow p k (a.drop (c-n)) (c-n)=some (if j=0 then none else some (j-1,(a[j-1]?.map (·.val)).getD undef))|0,_,e=>by injection e with e;subst e;rw[Nat.sub_zero,jjg oqo];exact⟨qqy _,rfl⟩|n+1,hn,e=>by have l:c-(n+1)<a.length:=oqo;rw[jqq l];change Option.rec none (λb=>sel b (some (Nat.sub c n)) (oO g.S M s str x c n)) (kEq g.S x (gt M (Nat.add s (Nat.mul (Nat.sub (Nat.sub c n) 1) str))))=some j at e;cases d:kEq g.S x (gt M (Nat.add s (Nat.mul (Nat.sub (Nat.sub c n) 1) str)))with|none=>rw[d]at e;cases e|some b=>rw[d]at e;change sel b (some (Nat.sub c n)) (oO g.S M s str x c n)=some j at e;simp only[nA,nS,nM]at d e;have hs:=XA m (hv (c-(n+1)) l) ht (by rw[show c-(n+1)=c-n-1 by omega];exact d);cases b with|true=>injection e with e;simp only[Instr.findNow,hs];rw[qzc oqo];refine⟨by omega,?_⟩;rw[<-e,show c-n-1=c-(n+1)by omega,qqh l];rfl|false=>have ih:=zn m ht hc hv n oqo e;simp only[Instr.findNow,hs];rw[show c-(n+1)+1=c-n by omega];exact ih
def EW{c nv s:Nat}(hc:c<16777216)(hv:nv<256):mc (eMp c nv s)=c/\mv (eMp c nv s)=nv/\ms (eMp c nv s)=s:=by
 refine⟨?_,?_,?_⟩;·show eMp c nv s/16%16777216=c;unfold eMp;omega
 ·show eMp c nv s/268435456%256=nv;unfold eMp;omega
 ·show eMp c nv s/68719476736=s;unfold eMp;omega
def Pk{c nv s:Nat}(hc:c<16777216)(hv:nv<256)(hs:s<16777216):eMp c nv s<2^128:=by unfold eMp;omega
def Ra(s:Nat):iP s/16=s:=by unfold iP;omega
section
variable {P:Program}{g:Gh}{st:St}{w:World}
def Jd{b:TypeId}{a:TypeDesc}(hd:P.underlying b=some a)(h0:iF a≠0)(v:Value)(e:Bool)(n:Nat)(w:World):(Instr.checkKey e (n+1) b v).run P w=.ok () w:=by unfold Instr.checkKey;simp only[qjm,jqa hd,Result.andThen];cases a<;>first|(exact absurd rfl h0)|rfl
def Ia{t c el:TypeId}{a:TypeDesc}{i:TypeInfo}{z:Value}{blk:Nat}{b:Array MapEntry}{d:Nat}{k:Value}{r:Option (Nat×Value)}(ht:P.underlying t=some (.map c el))(hd:P.underlying c=some a)(h0:iF a≠0)(hi:P.info? el=some i)(hz:i.zero=some z)(e:w.heap[blk]? =some (.map b d))(hf:Instr.findNow a k b.toList 0=some r)(ok:Bool):(Instr.lookup t (.map (some blk)) k ok).run P w=.ok (if ok then .tuple #[(r.map (·.2)).getD z,.bool r.isSome]else(r.map (·.2)).getD z) w:=by simp only[Instr.lookup,qjm,jqa ht,qjl,get_map e,jzk,Jd hd h0 k _ 9999,Ik hd hf];cases r with|none=>cases ok<;>simp[zeroValue,kr hi,hz]|some p=>cases ok<;>simp
def HR.UB(h:HR g st w){s blk:Nat}(hr:g.rho s=.map blk):∃c nv s' ws es clock,gt st.M s=eMp c nv s'/\c<16777216/\nv<256/\s'<16777216/\g.rho s'=.row ws/\w.heap[blk]? =some (.map es clock)/\es.size=c/\ws.length=c*stride nv/\(∀i,i<ws.length->gt st.M (s'+i)=ws.getD i 0)/\(∀i(h:i<es.toList.length),VR g (gt st.M (s'+i*stride nv)) es.toList[i].key)/\ ∀i(h:i<es.size),VR g (ws.getD (i*stride nv) 0) es[i].key/\xq g ws (i*stride nv+1) nv es[i].val:=by
 obtain⟨o,ho,c,nv,s',ws,es,clock,h1,h2,h3,l,a,rfl,b,d,e⟩:=h.maps s blk hr;have k:=h.rows s' ws a;refine⟨c,nv,s',ws,es,clock,h1,h2,h3,l,a,ho,b,d,k,λi hi=>?_,e⟩;have j:i<es.size:=by simpa using hi
 have m:0<stride nv:=by unfold stride;split<;>omega
 rw[k _ (by rw[d,<-b];exact Nat.mul_lt_mul_of_pos_right j m)];simpa using(e i j).1
def Ls(nv:Nat):0<stride nv:=by unfold stride;split<;>omega
end
end Ev
namespace Ev
def UW(M n:Nat):ad M n 0=M:=jzl λj=>by rw[Ho];simp
section
variable {P:Program}{K:Kon}{o:Oper}{g:Gh}{st:St}{w:World}
def HR.YI(h:HR g st w){cw:Nat}(c:cw<2^128){o:Obj}(hm:lL (g.put st.nM (.map w.heap.size)) cw o):HR (g.put st.nM (.map w.heap.size)) {st with M:=ad st.M st.nM cw,nM:=st.nM+1+1} (w.alloc o)/\Fr g w (g.put st.nM (.map w.heap.size)) (w.alloc o):=by
 refine⟨?_,Fr.alloc h _ (λb base z room a=>by cases a) (λb a=>by injection a with h1;exact h1.symm)⟩;refine HR.grown h (i:=.map w.heap.size) (cw:=cw) (uh (n:=1) c) (by simp) ?_ ?_ (λ_ _ _ _ hi=>by cases hi) (λws hw=>by cases hw) ?_;·intro s blk base z room d e fr' _ hc;exact⟨d,e,fr',kI hc.heap,rfl,hc.one,λ_=>⟨rfl,rfl⟩⟩
 ·intro s blk hs;obtain⟨o,ho,_⟩:=h.maps s blk hs;rw[kI ho,ho]
 ·intro blk a;injection a with a;subst a;refine⟨⟨o,yK _ _,by rw[gP _ c,qzb rfl];exact hm⟩,λs hs=>absurd (Ak h (.inr ⟨s,hs⟩)) oqo⟩
def HR.Xu(h:HR g st w){s blk:Nat}(hr:g.rho s=.map blk){m:Nat}(hm:m<2^128){o:Obj}(F:lL g m o):HR g {st with M:=up st.M s 1 m} {w with heap:=w.heap.setIfInBounds blk o}/\Fr g w g {w with heap:=w.heap.setIfInBounds blk o}:=by
 obtain⟨S,l,E⟩:=h.maps s blk hr;have p:blk<w.heap.size:=(qqs.1 l).1;have I:(w.heap.setIfInBounds blk o)[blk]? =some o:=by simp[p]
 have hold:∀b,b≠blk->(w.heap.setIfInBounds blk o)[b]? =w.heap[b]?:=λb d=>by simp[Ne.symm d]
 have n:m<2^(128*1):=hm;have ht:=h.top s (by rw[hr];simp);rw[hr]at ht;have q:(Info.map blk).size=1:=rfl;rw[q]at ht;have far:∀s',s'≠s->g.rho s'≠.free->∀j,j<=(g.rho s').size->gt (up st.M s 1 m) (s'+j)=gt st.M (s'+j):=λs' a hf j hj=>by
  rw[mZ _ _ _ n,qzc];rcases Nat.lt_or_gt_of_ne a with p|D;·have:=h.jR s' s p hf (by rw[hr];simp);omega
  ·have:=h.jR s s' D (by rw[hr];simp) hf;rw[hr,q]at this;omega
 have O:∀s' b base z room,g.rho s'=.cells b base z room->b≠blk:=λs' b base z room a e=>by subst e;obtain⟨c,t,fr,hc⟩:=h.cells s' b base z room a;rw[hc.heap]at l;injection l with l;subst l;obtain⟨_,_,_,_,_,_,_,_,_,_,_,B,_⟩:=E;cases B
 have live:∀s' z' b base r,g.rho s'=.cells b base z' r->(Live (up st.M s 1 m) s' z'↔Live st.M s' z'):=by
  intro s' z' b ba r k;have es:s'≠s:=by rintro rfl;rw[hr]at k;cases k
  constructor<;>rintro⟨j,hj,C⟩<;>refine⟨j,hj,?_⟩;·rwa[far s' es (by rw[k];simp) j (by rw[k];exact qzs hj)]at C
  ·rwa[far s' es (by rw[k];simp) j (by rw[k];exact qzs hj)]
 refine⟨⟨h.S,h.nS,h.Slt,Be h.Mlt (qzs ht) n,h.Rlt,h.top,h.jR,?_,?_,?_,?_,h.pK⟩,⟨rfl,rfl,rfl,by simp,Gh.le.refl _,λb _ d=>?_,λ_ _ h=>h⟩⟩
 ·intro s' b base z room a;obtain⟨c,e,fr,hc⟩:=h.cells s' b base z room a;have es:s'≠s:=by rintro rfl;rw[hr]at a;cases a
  refine⟨c,e,fr,by show(w.heap.setIfInBounds blk o)[b]? =_;rw[hold b (O _ _ _ _ _ a)];exact hc.heap,hc.size,hc.room,hc.one,λj hj=>?_,λhl=>hc.thaw ((live s' z b base room a).1 hl)⟩;show VR g (gt (up st.M s 1 m) (s'+j)) _;rw[far s' es (by rw[a];simp) j (by rw[a];exact qzs hj)];exact hc.vr j hj
 ·intro s' ws a i hi;have es:s'≠s:=by rintro rfl;rw[hr]at a;cases a
  show gt (up st.M s 1 m) (s'+i)=_;rw[far s' es (by rw[a];simp) i (by rw[a];exact qzs hi)];exact h.rows s' ws a i hi
 ·intro s' b a;by_cases es:s'=s;·subst es;rw[hr]at a;injection a with d;subst d;refine⟨o,I,?_⟩;show lL g (gt (up st.M s' 1 m) s') o;rw[mZ _ _ _ n,qzb oqo,jzg,gP _ hm,qzb rfl];exact F
  ·obtain⟨x,J,G⟩:=h.maps s' b a;have d:b≠blk:=λe=>es (h.pK s' s blk (by rw[a,e]) hr);refine⟨x,by show(w.heap.setIfInBounds blk o)[b]? =_;rw[hold b d];exact J,?_⟩;have:=far s' es (by rw[a];simp) 0 (qqy _);rw[qzz]at this;show lL g (gt (up st.M s 1 m) s') x;rw[this];exact G
 ·intro s1 s2 b v u Q y z2 R H h1 h2 L N;exact h.inj s1 s2 b v u Q y z2 R H h1 h2 ((live s1 u _ _ _ h1).1 L) ((live s2 z2 _ _ _ h2).1 N)
 ·refine hold b λA=>d ?_;subst A;exact .inr ⟨s,hr⟩
def Ve{t:TypeId}{nv:Nat}(ho:o.op=.makeMap t none)(hv:nv<256):OpV P K o (Q0 nv):=λg st a w x st' hk h n e=>by
 unfold Q0 at e;obtain⟨h1,e⟩:=ae e;rw[bX]at e;injection e with c d;have h1:=aT h1;simp only[nA]at c d h1;obtain⟨b,m⟩:=h.row [] (cw:=0) (by simp) (λi hi=>by simp at hi);simp only[jqz,qzz,UW]at b;have j:eMp 0 nv st.nM<2^128:=Pk oqo hv oqo;have hf:(g.put st.nM (.row [])).rho (st.nM+1)=.free:=j6 b (qqf _);obtain⟨k,l⟩:=b.YI (cw:=eMp 0 nv st.nM) j (o:=.map #[] 0) ⟨0,nv,st.nM,[],#[],0,rfl,by omega,hv,by omega,by rw[Gh.bK,qzc (by show st.nM≠st.nM+1;omega),Gh.bK,qzb rfl],rfl,rfl,by simp,λi hi=>by simp at hi⟩;subst d;refine⟨_,_,.map (some w.heap.size),.inl ?_,⟨k,m.trans l,Ext.refl _ _,?_,rfl,rfl⟩,λq=>absurd q (by simp[ho,dC])⟩;·simp[execOp,ho,Instr.makeMap]
 ·rw[<-c];exact .cell _ _ (.map (st.nM+1) w.heap.size h1 (by rw[Gh.bK,qzb rfl]))
end
end Ev
