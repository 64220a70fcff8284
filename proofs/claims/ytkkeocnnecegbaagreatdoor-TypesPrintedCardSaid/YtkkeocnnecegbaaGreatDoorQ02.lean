/- Joint text: TSpec, WalkA, Shelf. By an AI agent. -/
import Derived.Test.YtkkeocnnecegbaaGreatDoorQ01
import Derived.Test.YtkkeocnnecegbaaGreatDoorRows
import Derived.Test.YtkkeocnnecegbaaGreatDoorQ00
import Derived.WalkKit
import Derived.WalkSpells
import Derived.WalkLawsBesides
import Derived.BigQuiet
import Derived.Deep.QuietTactic
import Derived.Lib.Hide
import Derived.Shelf.Strings.Builder1
import Derived.Shelf.Strings.Builder2
import Derived.Shelf.Strings.OnBuilder
import Derived.Shelf.Small.Strs
import Derived.Shelf.Strings.BuilderF
import Derived.Shelf.Strings.BuilderK
import Derived.Shelf.Strings.Builder2Cap
import Derived.Shelf.Strconv.Itoa0
import Derived.Shelf.Strconv.Itoa1
import Derived.Shelf.LaysM
import Derived.Shelf.Strconv.Itoa2
import Derived.Shelf.Strconv.Itoa3
import Derived.Shelf.Strconv.Itoa4
import Derived.Shelf.Strconv.Clone
import Derived.Shelf.Strconv.SyntaxError
import Derived.Shelf.LaysC
import Derived.Shelf.Strconv.ToError
import Derived.Shelf.Strconv.Lower
import Derived.Shelf.Strconv.ParseUint10
import Derived.Shelf.Strconv.ParseUint10Empty
import Derived.Shelf.Strconv.ParseUint10Any
import Derived.Shelf.Strconv.RangeError
import Derived.Shelf.Strconv.ToErrorRange
import Derived.Shelf.Strconv.ParseUintEmpty
import Derived.Shelf.Strconv.ParseUint10b64
import Derived.Shelf.Strconv.ParseUint10b32
import Derived.Shelf.Strconv.ParseUint10b16
import Derived.Shelf.Strconv.ParseUint10b8
import Derived.Shelf.Strconv.ParseUint10At
import Derived.Shelf.Strings.Search1
import Derived.Shelf.Strings.Search2
import Derived.Shelf.Strings.Search3
import Derived.Shelf.Strings.Count
import Derived.Shelf.Strings.Shaped
import Derived.Shelf.Strings.Prefix
import Derived.Shelf.Strings.Split
import Derived.Shelf.Strings.SplitShaped
import Derived.Shelf.Bits.Mul64
import Derived.Shelf.Unicode.DecodeSlow
import Derived.Shelf.Strings.BuilderCap
import Derived.Shelf.Slices.Turned
import Derived.Shelf.Slices.Equal
import Derived.Ground.Names2Prog
import Derived.Shelf.Slices.Clone
import Derived.Shelf.Slices.Empties2
import Derived.Test.YtkkeocnnecegbaaGreatDoorProg
set_option linter.all false
set_option maxRecDepth 100000
set_option maxHeartbeats 64000000
namespace Go.Proofs.YtkkeocnnecegbaaGreatDoor
structure FnS where
 name:List UInt8
 params:Int
 vars:Nat
 root:Nat
structure TS where
 ak:List (List UInt8×Int)
 fns:List FnS
 of:List Int
 seen:List (List UInt8×Nat)
 vars:Nat
abbrev fK:=Option Nat×Int
def dm {α:Type} (nm:α→List UInt8) (x:List UInt8) (l:List α):Int:=match l.findIdx? (fun a=>nm a == x) with | none=>-1 | some k=>(k:Int)
def TS.array (s:TS) (x:List UInt8):Int:=dm (·.1) x s.ak
def TS.function (s:TS) (x:List UInt8):Int:=dm (·.name) x s.fns
def TS.find (s:TS) (x:List UInt8):Int:=match s.seen.findIdx? (fun a=>a.1 == x) with | none=>-1 | some k=>(((s.seen[k]?).map (·.2)).getD 0:Nat)
def TS.put (s:TS) (i:Nat) (v:Int):TS:={ s with of:=s.of.set i v }
def TS.see (s:TS) (i:Nat) (x:List UInt8):TS:={ s with of:=s.of.set i (s.vars:Int),seen:=s.seen ++ [(x,s.vars)],vars:=s.vars+1 }
def declT (i:Nat) (x:List UInt8) (s:TS):Except fK TS:=if 0≤s.find x then .error (some i,151) else .ok (s.see i x)
def eD (i:Nat) (v:Int) (s:TS):Except fK TS:=if v<0 then .error (some i,150) else .ok (s.put i v)
def andThenT (r:Except fK TS) (f:TS→Except fK TS):Except fK TS:=match r with | .error e=>.error e | .ok s=>f s
def TS.iH (s:TS) (i:Nat):Int:=((s.fns[((s.of[i]?).getD 0).toNat]?).map (·.params)).getD 0
def CB (k i:Nat) (t:List UInt8) (s:TS):Except fK TS :=
 if k=7∨k=14∨k=18 then eD i (s.find t) s else if k=8∨k=19 then eD i (s.array t) s else if k=16 then eD i (s.function t) s else .ok s
def jD (s s':TS):TS:={ s' with seen:=s'.seen.take s.seen.length }
mutual
def nodeT:Nat→Item→TS→Except fK TS
 | i,.mk k t _ _ ks,s =>
  if k=4 then declT i t s
  else if k=5 then andThenT (allT (i+1) ks s) (fun s'=>.ok (jD s s'))
  else if k=6 then andThenT (allT (i+1) ks s) (declT i t)
  else if k=15 then (if s.find t<0 then .error (some i,150) else callT i (i+1) ks (s.put i (s.find t)))
  else andThenT (CB k i t s) (allT (i+1) ks)
def allT:Nat→List Item→TS→Except fK TS
 | _,[],s=>.ok s
 | i,x :: r,s=>andThenT (nodeT i x s) (allT (i+sizeI x) r)
def callT:Nat→Nat→List Item→TS→Except fK TS
 | _,_,[],s=>.ok s
 | i,j,c :: r,s=>andThenT (nodeT j c s) (fun s2=>if s2.iH j≠(r.length:Int) then .error (some i,152) else allT (j+sizeI c) r s2)
end
def headT (i:Nat):Item→TS→Except fK TS
 | .mk k t n _ ks,s =>
  if k=2 then
   (if 0≤s.array t then .error (some i,151)
   else if 16<s.ak.length+1∨n<1∨4096<n then .error (some i,3)
   else .ok { s with of:=s.of.set i (s.ak.length:Int),ak:=s.ak ++ [(t,n)] })
  else
   (if 0≤s.function t then .error (some i,151)
   else if 64<s.fns.length+1∨6<(ks.length:Int) - 1∨64<t.length then .error (some i,3)
   else .ok { s with of:=s.of.set i (s.fns.length:Int),fns:=s.fns ++ [⟨t,(ks.length:Int) - 1,0,i⟩] })
def cO:Nat→List Item→TS→Except fK TS
 | _,[],s=>.ok s
 | i,x :: r,s=>andThenT (headT i x s) (cO (i+sizeI x) r)
def kidsT:Item→List Item | .mk _ _ _ _ ks=>ks
def iG:Item→Nat | .mk k _ _ _ _=>k
def bM (j v:Nat) (l:List FnS):List FnS:=l.modify j (fun f=>{ f with vars:=v })
def eU:Nat→Nat→List Item→TS→Except fK TS
 | _,_,[],s=>.ok s
 | j,o,x :: r,s=>if iG x=2 then eU j (o+sizeI x) r s else
  andThenT (allT (o+1) (kidsT x) { s with seen:=[],vars:=0 }) (fun s'=>eU (j+1) (o+sizeI x) r { s' with fns:=bM j s'.vars s'.fns })
def oF:List UInt8:=[109,97,105,110]
def TS.eB (s:TS):Int:=s.function oF
def TS.gF (s:TS):Bool:=decide (s.eB<0) || decide (0<((s.fns[s.eB.toNat]?).map (·.params)).getD 0)
def eF (x:Item):TS:=⟨[],[],List.replicate (sizeI x) (-1),[],0⟩
def bu (x:Item):Except fK TS :=
 andThenT (cO 1 (kidsT x) (eF x)) (fun s=>if s.gF then .error (none,153) else eU 0 1 (kidsT x) s)
theorem gu {r:Except fK TS} {f g:TS→Except fK TS} (h:∀ s,f s=g s):andThenT r f=andThenT r g:=by rw [show f=g from funext h]
theorem oJ:∀ {l m:List Item},av l=av m→l.length=m.length
 | [],[],_=>rfl
 | [],_ :: _,h=>by simp [av] at h
 | _ :: _,[],h=>by simp [av] at h
 | x :: r,y :: q,h=>by
  simp only [av,List.cons.injEq] at h
  simp only [List.length_cons,oJ h.2]
mutual
theorem si:∀ {x y:Item},erase x=erase y→∀ i s,nodeT i x s=nodeT i y s
 | .mk k t n p ks,.mk k' t' n' p' js,h,i,s=>by
  simp only [erase,Item.mk.injEq] at h
  obtain ⟨rfl,rfl,rfl,_,h⟩:=h
  have ha:∀ j s,allT j ks s=allT j js s:=fun j s=>mY h j s
  have hc:∀ i j s,callT i j ks s=callT i j js s:=fun i j s=>BS h i j s
  unfold nodeT
  rw [ha,hc]
  congr 4
  rw [show allT (i+1) ks=allT (i+1) js from funext (ha (i+1))]
theorem mY:∀ {l m:List Item},av l=av m→∀ i s,allT i l s=allT i m s
 | [],[],_,i,s=>rfl
 | [],_ :: _,h,i,s=>by simp [av] at h
 | _ :: _,[],h,i,s=>by simp [av] at h
 | x :: r,y :: q,h,i,s=>by
  simp only [av,List.cons.injEq] at h
  unfold allT
  rw [si h.1,size_erase h.1]
  exact gu (fun s=>mY h.2 _ s)
theorem BS:∀ {l m:List Item},av l=av m→∀ i j s,callT i j l s=callT i j m s
 | [],[],_,i,j,s=>rfl
 | [],_ :: _,h,i,j,s=>by simp [av] at h
 | _ :: _,[],h,i,j,s=>by simp [av] at h
 | x :: r,y :: q,h,i,j,s=>by
  simp only [av,List.cons.injEq] at h
  unfold callT
  rw [si h.1,size_erase h.1,oJ h.2]
  exact gu (fun s=>by rw [mY h.2])
end
theorem Cx {x y:Item} (h:erase x=erase y) (i:Nat) (s:TS):headT i x s=headT i y s:=by
 obtain ⟨k,t,n,p,ks⟩:=x
 obtain ⟨k',t',n',p',js⟩:=y
 simp only [erase,Item.mk.injEq] at h
 obtain ⟨rfl,rfl,rfl,_,h⟩:=h
 simp only [headT,oJ h]
theorem qB:∀ {l m:List Item},av l=av m→∀ i s,cO i l s=cO i m s
 | [],[],_,i,s=>rfl
 | [],_ :: _,h,i,s=>by simp [av] at h
 | _ :: _,[],h,i,s=>by simp [av] at h
 | x :: r,y :: q,h,i,s=>by
  simp only [av,List.cons.injEq] at h
  unfold cO
  rw [Cx h.1,size_erase h.1]
  exact gu (fun s=>qB h.2 _ s)
theorem rP {x y:Item} (h:erase x=erase y):av (kidsT x)=av (kidsT y)∧iG x=iG y:=by
 obtain ⟨k,t,n,p,ks⟩:=x
 obtain ⟨k',t',n',p',js⟩:=y
 simp only [erase,Item.mk.injEq] at h
 exact⟨h.2.2.2.2,h.1⟩
theorem mq:∀ {l m:List Item},av l=av m→∀ j o s,eU j o l s=eU j o m s
 | [],[],_,j,o,s=>rfl
 | [],_ :: _,h,j,o,s=>by simp [av] at h
 | _ :: _,[],h,j,o,s=>by simp [av] at h
 | x :: r,y :: q,h,j,o,s=>by
  simp only [av,List.cons.injEq] at h
  unfold eU
  obtain ⟨h1,h2⟩:=rP h.1
  rw [h2,size_erase h.1,mY h1,mq h.2]
  split
  ·rfl
  ·exact gu (fun s=>mq h.2 _ _ _)
theorem vR {x y:Item} (h:erase x=erase y):bu x=bu y:=by
 unfold bu eF
 obtain ⟨h1,_⟩:=rP h
 rw [size_erase h,qB h1]
 exact gu (fun s=>by rw [mq h1])
end Go.Proofs.YtkkeocnnecegbaaGreatDoor
namespace Go.Proofs.YtkkeocnnecegbaaGreatDoor
open Go.RowKit
theorem dM {a b:Bool} (h:a=b):Ending.returned (.bool a)=Ending.returned (.bool b):=by rw [h]
theorem qg {k:IntKind} {a b:Int} (h:a=b):Ending.returned (.int k a)=.returned (.int k b):=by rw [h]
theorem below_drewN (w:World) (q:Nat):Below w.heap.size w (w.drewN q):=⟨rfl,rfl,rfl,Nat.le_refl _,fun _ _=>rfl⟩
theorem ag {w w1 w2:World} (h:Below w.heap.size w w1) (h':Below w1.heap.size w1 w2):Below w.heap.size w w2:=h.trans (h'.mono h.size)
theorem uS (c:UInt8):isLet c=(decide ((c.toNat:Int)=95) || (decide (97≤(c.toNat:Int)) && decide ((c.toNat:Int)≤122)) || (decide (65≤(c.toNat:Int)) && decide ((c.toNat:Int)≤90))):=by
 unfold isLet
 rw [Bool.eq_iff_iff]
 simp [UInt8.le_iff_toNat_le,← UInt8.toNat_inj]
 omega
theorem mM (c:UInt8):aU c=(decide (48≤(c.toNat:Int)) && decide ((c.toNat:Int)≤57)):=by
 unfold aU
 rw [Bool.eq_iff_iff]
 simp [UInt8.le_iff_toNat_le]
 omega
theorem pg (c:UInt8) (w:World) :
  Calls Tryz.prog 100 #[.int .u8 c.toNat] w fun e w'=>e=.returned (.bool (aU c))∧w=w':=by
 rw [mM]
 go_enter Tryz.func100,Tryz.ntmps100
 go_wp2_with fail
 all_goals go_ret
 all_goals exact⟨dM (by first | (rw [Bool.eq_iff_iff]; simp; omega) | (rw [Bool.eq_iff_iff]; simp; done) | (rw [Bool.eq_iff_iff]; done) | (simp; omega)),rfl⟩
theorem gD (c:UInt8) (w:World) :
  Calls Tryz.prog 98 #[.int .u8 c.toNat] w fun e w'=>e=.returned (.bool (isLet c))∧w=w':=by
 rw [uS]
 go_enter Tryz.func98,Tryz.ntmps98
 go_wp2_with fail
 all_goals go_ret
 all_goals exact⟨dM (by first | (rw [Bool.eq_iff_iff]; simp; omega) | (rw [Bool.eq_iff_iff]; simp; done) | (rw [Bool.eq_iff_iff]; done) | (simp; omega)),rfl⟩
def gY (c:UInt8):Bool:=isLet c || aU c
theorem zV (c:UInt8) (pa pb:Nat) (w:World) (ha:w.cell? ⟨pa,0,none⟩=some (.func (.func 98) #[] #[])) (hb:w.cell? ⟨pb,0,none⟩=some (.func (.func 100) #[] #[])) :
  Calls Tryz.prog 147 #[.int .u8 c.toNat,.pointer (some ⟨pa,0,none⟩),.pointer (some ⟨pb,0,none⟩)] w fun e w'=>e=.returned (.bool (gY c))∧w=w':=by
 unfold gY
 cases h1:isLet c
 ·have H1:=Lib.hid h1; clear h1
  go_enter Tryz.func147,Tryz.ntmps147
  go_wp2_with fail
  refine (gD c _).mono ?_; rw [H1.out]; rintro e w' ⟨rfl,rfl⟩
  go_wp2_with fail
  refine (pg c _).mono ?_; rintro e w' ⟨rfl,rfl⟩
  go_wp2_with fail
  go_ret
  exact⟨dM (by simp),rfl⟩
 ·have H1:=Lib.hid h1; clear h1
  go_enter Tryz.func147,Tryz.ntmps147
  go_wp2_with fail
  refine (gD c _).mono ?_; rw [H1.out]; rintro e w' ⟨rfl,rfl⟩
  go_wp2_with fail
  go_ret
  exact⟨dM (by simp),rfl⟩
theorem byte_at (s:ByteArray) (k:Nat) (h:k<s.size):s.data.toList[k]'(by simpa using h)=s[k]:=by simp; rfl
theorem bB (s:ByteArray):s.data.toList.length=s.size:=by simp
theorem H6 (s:ByteArray) (w:World) (hs:s.size≤1000000) :
  Calls Tryz.prog 101 #[.func (.func 100) #[] #[],.string s] w fun e w'=>e=.returned (.int .i64 (aQ aU s.data.toList))∧w=w':=by
 go_enter Tryz.func101,Tryz.ntmps101
 go_wp2_with fail
 go_loop [8] (fun i=>∃ k:Nat,k≤s.size∧i=.int .i64 k∧∀ j (h:j<s.data.toList.length),j<k→aU s.data.toList[j]=true) (fun i=>s.size - (intOf i).toNat)
 case atStart=>exact⟨0,Nat.zero_le _,rfl,fun j _ hj=>absurd hj (Nat.not_lt_zero _)⟩
 case round =>
  obtain ⟨k,hk,rfl,hall⟩:=hrel
  have H:=Lib.hid hall; clear hall
  by_cases hlt:k<s.size
  ·have HB:=Lib.hid (byte_at s k hlt)
   cases hd:aU s[k]
   ·have HD:=Lib.hid hd; clear hd
    go_wp2_with fail
    refine (pg s[k] _).mono ?_; rw [HD.out]; rintro e w' ⟨rfl,rfl⟩
    go_wp2_with fail
    go_ret
    exact⟨qg (congrArg Int.ofNat (x9 (k:=k) (by rw [bB]; exact hlt) (fun j h hj=>H.out j h hj) (by rw [HB.out]; exact HD.out))).symm,rfl⟩
   ·have HD:=Lib.hid hd; clear hd
    go_wp2_with fail
    refine (pg s[k] _).mono ?_; rw [HD.out]; rintro e w' ⟨rfl,rfl⟩
    go_wp2_with fail
    go_round
    case rel=>exact⟨k+1,by omega,by go_num,fun j h hj=>by
     by_cases hjk:j=k
     ·subst hjk; rw [HB.out]; exact HD.out
     ·exact H.out j h (by omega)⟩
    case measure=>simp [intOf]; omega
  ·obtain rfl:k=s.size:=by omega
   go_wp2_with fail
   go_ret
   exact⟨qg (by rw [pO (fun j h=>H.out j h (by rw [bB] at h; exact h)),bB]),rfl⟩
theorem pU (s:ByteArray) (pa pb:Nat) (w:World) (hs:s.size≤1000000) (ha:w.cell? ⟨pa,0,none⟩=some (.func (.func 98) #[] #[])) (hb:w.cell? ⟨pb,0,none⟩=some (.func (.func 100) #[] #[])) :
  Calls Tryz.prog 101 #[.func (.func 147) #[] #[.pointer (some ⟨pa,0,none⟩),.pointer (some ⟨pb,0,none⟩)],.string s] w fun e w'=>e=.returned (.int .i64 (aQ gY s.data.toList))∧w=w':=by
 have HA:=Lib.hid ha; have HB':=Lib.hid hb; clear ha hb
 go_enter Tryz.func101,Tryz.ntmps101
 go_wp2_with fail
 go_loop [8] (fun i=>∃ k:Nat,k≤s.size∧i=.int .i64 k∧∀ j (h:j<s.data.toList.length),j<k→gY s.data.toList[j]=true) (fun i=>s.size - (intOf i).toNat)
 case atStart=>exact⟨0,Nat.zero_le _,rfl,fun j _ hj=>absurd hj (Nat.not_lt_zero _)⟩
 case round =>
  obtain ⟨k,hk,rfl,hall⟩:=hrel
  have H:=Lib.hid hall; clear hall
  by_cases hlt:k<s.size
  ·have HB:=Lib.hid (byte_at s k hlt)
   cases hd:gY s[k]
   ·have HD:=Lib.hid hd; clear hd
    go_wp2_with fail
    refine (zV s[k] pa pb _ HA.out HB'.out).mono ?_; rw [HD.out]; rintro e w' ⟨rfl,rfl⟩
    go_wp2_with fail
    go_ret
    exact⟨qg (congrArg Int.ofNat (x9 (k:=k) (by rw [bB]; exact hlt) (fun j h hj=>H.out j h hj) (by rw [HB.out]; exact HD.out))).symm,rfl⟩
   ·have HD:=Lib.hid hd; clear hd
    go_wp2_with fail
    refine (zV s[k] pa pb _ HA.out HB'.out).mono ?_; rw [HD.out]; rintro e w' ⟨rfl,rfl⟩
    go_wp2_with fail
    go_round
    case rel=>exact⟨k+1,by omega,by go_num,fun j h hj=>by
     by_cases hjk:j=k
     ·subst hjk; rw [HB.out]; exact HD.out
     ·exact H.out j h (by omega)⟩
    case measure=>simp [intOf]; omega
  ·obtain rfl:k=s.size:=by omega
   go_wp2_with fail
   go_ret
   exact⟨qg (by rw [pO (fun j h=>H.out j h (by rw [bB] at h; exact h)),bB]),rfl⟩
theorem wY (w:World) :
  Calls Tryz.prog 99 #[.func (.func 98) #[] #[],.func (.func 100) #[] #[]] w fun e w'=>e=.returned (.func (.func 147) #[] #[.pointer (some ⟨w.heap.size,0,none⟩),.pointer (some ⟨w.heap.size+1,0,none⟩)]) ∧
   w'=(w.alloc (.cells #[.func (.func 98) #[] #[]] 165)).alloc (.cells #[.func (.func 100) #[] #[]] 165):=by
 go_enter Tryz.func99,Tryz.ntmps99
 go_wp2_with fail
 go_ret
 exact⟨rfl,rfl⟩
end Go.Proofs.YtkkeocnnecegbaaGreatDoor
namespace Go.Proofs
open Go.Shelf
def Tryz.lays156_ren:Go.Shelf.Ren:=⟨fun | 156=>63 | 165=>107 | 166=>108 | 169=>109 | 240=>155 | 241=>156 | 276=>191 | 277=>192 | n=>n,fun | 31=>52 | 9=>9 | 3=>3 | 4=>4 | 0=>0 | 20=>20 | 72=>172 | 76=>173 | 70=>170 | 37=>30 | 75=>108 | 127=>212 | 164=>182 | 5=>5 | 80=>147 | n=>n,fun | n=>n⟩
theorem Tryz.lays156:Go.Proofs.Lays.n156 Tryz.prog Tryz.lays156_ren:={
 mixed:=by kernel_rfl
 f156:=Tryz.func63.trans (congrArg some (by kernel_rfl))
 f165:=Tryz.func107.trans (congrArg some (by kernel_rfl))
 f166:=Tryz.func108.trans (congrArg some (by kernel_rfl))
 f169:=Tryz.func109.trans (congrArg some (by kernel_rfl))
 f240:=Tryz.func155.trans (congrArg some (by kernel_rfl))
 f241:=Tryz.func156.trans (congrArg some (by kernel_rfl))
 f276:=Tryz.func191.trans (congrArg some (by kernel_rfl))
 f277:=Tryz.func192.trans (congrArg some (by kernel_rfl))
 t0:=Tryz.underlying0
 a0:=Tryz.isAgg0
 z0:=Tryz.sizeOf0
 v0:=Tryz.zeroValue0
 t3:=Tryz.underlying3
 a3:=Tryz.isAgg3
 z3:=Tryz.sizeOf3
 v3:=Tryz.zeroValue3
 t4:=Tryz.underlying4
 a4:=Tryz.isAgg4
 z4:=Tryz.sizeOf4
 v4:=Tryz.zeroValue4
 t9:=Tryz.underlying9
 a9:=Tryz.isAgg9
 z9:=Tryz.sizeOf9
 v9:=Tryz.zeroValue9
 t20:=Tryz.underlying20
 a20:=Tryz.isAgg20
 z20:=Tryz.sizeOf20
 v20:=Tryz.zeroValue20
 t31:=Tryz.underlying52
 a31:=Tryz.isAgg52
 z31:=Tryz.sizeOf52
 v31:=Tryz.zeroValue52
 t37:=Tryz.underlying30
 a37:=Tryz.isAgg30
 z37:=Tryz.sizeOf30
 v37:=Tryz.zeroValue30
 t70:=Tryz.underlying170
 a70:=Tryz.isAgg170
 z70:=Tryz.sizeOf170
 v70:=Tryz.zeroValue170
 t72:=Tryz.underlying172
 a72:=Tryz.isAgg172
 z72:=Tryz.sizeOf172
 v72:=Tryz.zeroValue172
 t75:=Tryz.underlying108
 a75:=Tryz.isAgg108
 z75:=Tryz.sizeOf108
 v75:=Tryz.zeroValue108
 t76:=Tryz.underlying173
 a76:=Tryz.isAgg173
 z76:=Tryz.sizeOf173
 v76:=Tryz.zeroValue173
 t127:=Tryz.underlying212
 a127:=Tryz.isAgg212
 z127:=Tryz.sizeOf212
 v127:=Tryz.zeroValue212
 t164:=Tryz.underlying182
 a164:=Tryz.isAgg182
 z164:=Tryz.sizeOf182
 v164:=Tryz.zeroValue182 }
theorem Tryz.Builder_Extra_156:Builder.Extra Tryz.prog Tryz.lays156_ren:={
 sizeBuilder:=by kernel_rfl
 liesBuilder:=by kernel_rfl
 t5:=Tryz.underlying5
 a5:=Tryz.isAgg5
 z5:=Tryz.sizeOf5
 v5:=Tryz.zeroValue5
 infoByte:=by kernel_rfl
 cellsByte:=by kernel_rfl
 sizeByte:=by kernel_rfl
 neB5:=by decide }
open Go.RowKit in
theorem Tryz.strings_Join_none (a:Option Addr) (c:Nat) (sep:ByteArray) (w:World) :
  Calls Tryz.prog 63 #[.slice a 0 c,.string sep] w fun e w'=>e=.returned (.string ⟨#[]⟩)∧w'=w:=Any.strings_Join_none Tryz.lays156 Tryz.Builder_Extra_156 a c sep w
open Go.RowKit in
theorem Tryz.strings_Join (bk o c:Nat) (xs:List ByteArray) (sep:ByteArray) (w:World) (hcells:∀ (j:Nat) x,xs[j]? = some x→w.cell? ⟨bk,o+j,none⟩=some (.string x)) (hbk:bk<w.heap.size) (hN:xs.length≤140737488355328) (hcap:xs.length≤c) (hlen:(Lib.join (xs.map (·.data.toList)) sep.data.toList).length≤140737488355328) :
  Calls Tryz.prog 63 #[.slice (some ⟨bk,o,none⟩) xs.length c,.string sep] w fun e w'=>e=.returned (.string ⟨(Lib.join (xs.map (·.data.toList)) sep.data.toList).toArray⟩)∧Below w.heap.size w w':=Any.strings_Join Tryz.lays156 Tryz.Builder_Extra_156 bk o c xs sep w hcells hbk hN hcap hlen
def Tryz.lays137_ren:Go.Shelf.Ren:=⟨fun | 137=>148 | 217=>187 | 266=>213 | n=>n,fun | 9=>9 | 5=>5 | 3=>3 | n=>n,fun | n=>n⟩
theorem Tryz.lays137:Go.Proofs.Lays.n137 Tryz.prog Tryz.lays137_ren:={
 mixed:=by kernel_rfl
 f137:=Tryz.func148.trans (congrArg some (by kernel_rfl))
 f217:=Tryz.func187.trans (congrArg some (by kernel_rfl))
 f266:=Tryz.func213.trans (congrArg some (by kernel_rfl))
 t3:=Tryz.underlying3
 a3:=Tryz.isAgg3
 z3:=Tryz.sizeOf3
 v3:=Tryz.zeroValue3
 t5:=Tryz.underlying5
 a5:=Tryz.isAgg5
 z5:=Tryz.sizeOf5
 v5:=Tryz.zeroValue5
 t9:=Tryz.underlying9
 a9:=Tryz.isAgg9
 z9:=Tryz.sizeOf9
 v9:=Tryz.zeroValue9 }
open Go.RowKit in
theorem Tryz.strings_IndexByte (s:ByteArray) (c:Int) (w:World) :
  Calls Tryz.prog 148 #[.string s,.int .u8 c] w fun e w'=>e=.returned (.int .i64 (Lib.indexByte s.data.toList c.toNat.toUInt8))∧w'=w:=Any.strings_IndexByte Tryz.lays137 s c w
def Tryz.laysM173_ren:Go.Shelf.Ren:=⟨fun | 173=>136 | 246=>176 | 283=>205 | 284=>206 | 285=>207 | 286=>208 | 129=>223 | 317=>222 | 318=>224 | 319=>225 | 320=>226 | 337=>233 | 338=>234 | n=>n,fun | 2=>2 | 3=>3 | 9=>9 | 4=>4 | 171=>266 | 0=>0 | 53=>106 | 37=>30 | 5=>5 | 173=>269 | 212=>284 | 51=>213 | 20=>20 | 213=>285 | 46=>177 | 232=>297 | 233=>298 | n=>n,fun | 17=>4 | 18=>5 | 19=>6 | n=>n⟩
theorem Tryz.laysM173:Go.Proofs.LaysM.n173 Tryz.prog Tryz.laysM173_ren:={
 mixed:=by kernel_rfl
 f129:=Tryz.func223.trans (congrArg some (by kernel_rfl))
 f173:=Tryz.func136.trans (congrArg some (by kernel_rfl))
 f246:=Tryz.func176.trans (congrArg some (by kernel_rfl))
 f283:=Tryz.func205.trans (congrArg some (by kernel_rfl))
 f284:=Tryz.func206.trans (congrArg some (by kernel_rfl))
 f285:=Tryz.func207.trans (congrArg some (by kernel_rfl))
 f286:=Tryz.func208.trans (congrArg some (by kernel_rfl))
 f317:=Tryz.func222.trans (congrArg some (by kernel_rfl))
 f318:=Tryz.func224.trans (congrArg some (by kernel_rfl))
 f319:=Tryz.func225.trans (congrArg some (by kernel_rfl))
 f320:=Tryz.func226.trans (congrArg some (by kernel_rfl))
 f337:=Tryz.func233.trans (congrArg some (by kernel_rfl))
 f338:=Tryz.func234.trans (congrArg some (by kernel_rfl))
 t0:=Tryz.underlying0
 a0:=Tryz.isAgg0
 z0:=Tryz.sizeOf0
 v0:=Tryz.zeroValue0
 t2:=Tryz.underlying2
 a2:=Tryz.isAgg2
 z2:=Tryz.sizeOf2
 v2:=Tryz.zeroValue2
 t3:=Tryz.underlying3
 a3:=Tryz.isAgg3
 z3:=Tryz.sizeOf3
 v3:=Tryz.zeroValue3
 t4:=Tryz.underlying4
 a4:=Tryz.isAgg4
 z4:=Tryz.sizeOf4
 v4:=Tryz.zeroValue4
 t5:=Tryz.underlying5
 a5:=Tryz.isAgg5
 z5:=Tryz.sizeOf5
 v5:=Tryz.zeroValue5
 t9:=Tryz.underlying9
 a9:=Tryz.isAgg9
 z9:=Tryz.sizeOf9
 v9:=Tryz.zeroValue9
 t20:=Tryz.underlying20
 a20:=Tryz.isAgg20
 z20:=Tryz.sizeOf20
 v20:=Tryz.zeroValue20
 t37:=Tryz.underlying30
 a37:=Tryz.isAgg30
 z37:=Tryz.sizeOf30
 v37:=Tryz.zeroValue30
 t46:=Tryz.underlying177
 a46:=Tryz.isAgg177
 z46:=Tryz.sizeOf177
 v46:=Tryz.zeroValue177
 t51:=Tryz.underlying213
 a51:=Tryz.isAgg213
 z51:=Tryz.sizeOf213
 v51:=Tryz.zeroValue213
 t53:=Tryz.underlying106
 a53:=Tryz.isAgg106
 z53:=Tryz.sizeOf106
 v53:=Tryz.zeroValue106
 t171:=Tryz.underlying266
 a171:=Tryz.isAgg266
 z171:=Tryz.sizeOf266
 v171:=Tryz.zeroValue266
 t173:=Tryz.underlying269
 a173:=Tryz.isAgg269
 z173:=Tryz.sizeOf269
 v173:=Tryz.zeroValue269
 t212:=Tryz.underlying284
 a212:=Tryz.isAgg284
 z212:=Tryz.sizeOf284
 v212:=Tryz.zeroValue284
 t213:=Tryz.underlying285
 a213:=Tryz.isAgg285
 z213:=Tryz.sizeOf285
 t232:=Tryz.underlying297
 a232:=Tryz.isAgg297
 z232:=Tryz.sizeOf297
 v232:=Tryz.zeroValue297
 t233:=Tryz.underlying298
 a233:=Tryz.isAgg298
 z233:=Tryz.sizeOf298
 v233:=Tryz.zeroValue298
 g17:=by kernel_rfl
 g18:=by kernel_rfl
 g19:=by kernel_rfl
 i0:=by kernel_rfl
 i2:=by kernel_rfl
 i3:=by kernel_rfl
 i4:=by kernel_rfl
 i5:=by kernel_rfl
 i9:=by kernel_rfl
 i20:=by kernel_rfl
 i37:=by kernel_rfl
 i46:=by kernel_rfl
 i51:=by kernel_rfl
 i53:=by kernel_rfl
 i171:=by kernel_rfl
 i173:=by kernel_rfl
 i212:=by kernel_rfl
 i232:=by kernel_rfl
 i233:=by kernel_rfl
 m17:=by kernel_rfl
 m18:=by kernel_rfl
 m19:=by kernel_rfl }
open Go.RowKit Go.Sort Go.Lib in
theorem Tryz.strconv_FormatInt_10 (n:Int) (h0 : -9223372036854775808≤n) (h1:n≤9223372036854775807) (w:World) (htab:Lib.TabIs Tryz.prog w "internal/strconv.uint64pow10" .u64 Lib.pow10Tab) :
  Calls Tryz.prog 136 #[.int .i64 n,.int .i64 10] w fun e w'=>e=.returned (.string ⟨(Lib.itoa n).toArray⟩)∧∃ k os,w'=grow (w.drewN k) os:=Any.strconv_FormatInt_10 Tryz.laysM173 n h0 h1 w htab
def Tryz.laysC245_ren:Go.Shelf.Ren:=⟨fun | 245=>106 | 279=>151 | 280=>152 | 281=>153 | 282=>154 | 316=>188 | 171=>190 | 205=>189 | 243=>214 | 246=>176 | 283=>205 | 284=>206 | 285=>207 | 286=>208 | 129=>223 | 317=>222 | 318=>224 | 319=>225 | 320=>226 | 337=>233 | 338=>234 | n=>n,fun | 9=>9 | 3=>3 | 75=>108 | 167=>208 | 4=>4 | 168=>209 | 210=>252 | 37=>30 | 0=>0 | 127=>212 | 145=>274 | 143=>272 | 2=>2 | 171=>266 | 53=>106 | 5=>5 | 173=>269 | 212=>284 | 51=>213 | 20=>20 | 213=>285 | 46=>177 | 232=>297 | 233=>298 | 80=>147 | n=>n,fun | 15=>1 | 16=>2 | 17=>4 | 18=>5 | 19=>6 | n=>n⟩
theorem Tryz.laysC245:Go.Proofs.LaysC.n245 Tryz.prog Tryz.laysC245_ren:={
 mixed:=by kernel_rfl
 f129:=Tryz.func223.trans (congrArg some (by kernel_rfl))
 f171:=Tryz.func190.trans (congrArg some (by kernel_rfl))
 f205:=Tryz.func189.trans (congrArg some (by kernel_rfl))
 f243:=Tryz.func214.trans (congrArg some (by kernel_rfl))
 f245:=Tryz.func106.trans (congrArg some (by kernel_rfl))
 f246:=Tryz.func176.trans (congrArg some (by kernel_rfl))
 f279:=Tryz.func151.trans (congrArg some (by kernel_rfl))
 f280:=Tryz.func152.trans (congrArg some (by kernel_rfl))
 f281:=Tryz.func153.trans (congrArg some (by kernel_rfl))
 f282:=Tryz.func154.trans (congrArg some (by kernel_rfl))
 f283:=Tryz.func205.trans (congrArg some (by kernel_rfl))
 f284:=Tryz.func206.trans (congrArg some (by kernel_rfl))
 f285:=Tryz.func207.trans (congrArg some (by kernel_rfl))
 f286:=Tryz.func208.trans (congrArg some (by kernel_rfl))
 f316:=Tryz.func188.trans (congrArg some (by kernel_rfl))
 f317:=Tryz.func222.trans (congrArg some (by kernel_rfl))
 f318:=Tryz.func224.trans (congrArg some (by kernel_rfl))
 f319:=Tryz.func225.trans (congrArg some (by kernel_rfl))
 f320:=Tryz.func226.trans (congrArg some (by kernel_rfl))
 f337:=Tryz.func233.trans (congrArg some (by kernel_rfl))
 f338:=Tryz.func234.trans (congrArg some (by kernel_rfl))
 t0:=Tryz.underlying0
 a0:=Tryz.isAgg0
 z0:=Tryz.sizeOf0
 v0:=Tryz.zeroValue0
 t2:=Tryz.underlying2
 a2:=Tryz.isAgg2
 z2:=Tryz.sizeOf2
 v2:=Tryz.zeroValue2
 t3:=Tryz.underlying3
 a3:=Tryz.isAgg3
 z3:=Tryz.sizeOf3
 v3:=Tryz.zeroValue3
 t4:=Tryz.underlying4
 a4:=Tryz.isAgg4
 z4:=Tryz.sizeOf4
 v4:=Tryz.zeroValue4
 t5:=Tryz.underlying5
 a5:=Tryz.isAgg5
 z5:=Tryz.sizeOf5
 v5:=Tryz.zeroValue5
 t9:=Tryz.underlying9
 a9:=Tryz.isAgg9
 z9:=Tryz.sizeOf9
 v9:=Tryz.zeroValue9
 t20:=Tryz.underlying20
 a20:=Tryz.isAgg20
 z20:=Tryz.sizeOf20
 v20:=Tryz.zeroValue20
 t37:=Tryz.underlying30
 a37:=Tryz.isAgg30
 z37:=Tryz.sizeOf30
 v37:=Tryz.zeroValue30
 t46:=Tryz.underlying177
 a46:=Tryz.isAgg177
 z46:=Tryz.sizeOf177
 v46:=Tryz.zeroValue177
 t51:=Tryz.underlying213
 a51:=Tryz.isAgg213
 z51:=Tryz.sizeOf213
 v51:=Tryz.zeroValue213
 t53:=Tryz.underlying106
 a53:=Tryz.isAgg106
 z53:=Tryz.sizeOf106
 v53:=Tryz.zeroValue106
 t75:=Tryz.underlying108
 a75:=Tryz.isAgg108
 z75:=Tryz.sizeOf108
 v75:=Tryz.zeroValue108
 t127:=Tryz.underlying212
 a127:=Tryz.isAgg212
 z127:=Tryz.sizeOf212
 v127:=Tryz.zeroValue212
 t143:=Tryz.underlying272
 a143:=Tryz.isAgg272
 z143:=Tryz.sizeOf272
 v143:=Tryz.zeroValue272
 t145:=Tryz.underlying274
 a145:=Tryz.isAgg274
 z145:=Tryz.sizeOf274
 v145:=Tryz.zeroValue274
 t167:=Tryz.underlying208
 a167:=Tryz.isAgg208
 z167:=Tryz.sizeOf208
 v167:=Tryz.zeroValue208
 t168:=Tryz.underlying209
 a168:=Tryz.isAgg209
 z168:=Tryz.sizeOf209
 v168:=Tryz.zeroValue209
 t171:=Tryz.underlying266
 a171:=Tryz.isAgg266
 z171:=Tryz.sizeOf266
 v171:=Tryz.zeroValue266
 t173:=Tryz.underlying269
 a173:=Tryz.isAgg269
 z173:=Tryz.sizeOf269
 v173:=Tryz.zeroValue269
 t210:=Tryz.underlying252
 a210:=Tryz.isAgg252
 z210:=Tryz.sizeOf252
 v210:=Tryz.zeroValue252
 t212:=Tryz.underlying284
 a212:=Tryz.isAgg284
 z212:=Tryz.sizeOf284
 v212:=Tryz.zeroValue284
 t213:=Tryz.underlying285
 a213:=Tryz.isAgg285
 z213:=Tryz.sizeOf285
 t232:=Tryz.underlying297
 a232:=Tryz.isAgg297
 z232:=Tryz.sizeOf297
 v232:=Tryz.zeroValue297
 t233:=Tryz.underlying298
 a233:=Tryz.isAgg298
 z233:=Tryz.sizeOf298
 v233:=Tryz.zeroValue298
 g15:=by kernel_rfl
 g16:=by kernel_rfl
 g17:=by kernel_rfl
 g18:=by kernel_rfl
 g19:=by kernel_rfl
 t80:=Tryz.underlying147
 a80:=Tryz.isAgg147
 z80:=Tryz.sizeOf147
 v80:=Tryz.zeroValue147
 i0:=by kernel_rfl
 i2:=by kernel_rfl
 i3:=by kernel_rfl
 i4:=by kernel_rfl
 i5:=by kernel_rfl
 i9:=by kernel_rfl
 i20:=by kernel_rfl
 i37:=by kernel_rfl
 i46:=by kernel_rfl
 i51:=by kernel_rfl
 i53:=by kernel_rfl
 i75:=by kernel_rfl
 i80:=by kernel_rfl
 i127:=by kernel_rfl
 i143:=by kernel_rfl
 i145:=by kernel_rfl
 i167:=by kernel_rfl
 i168:=by kernel_rfl
 i171:=by kernel_rfl
 i173:=by kernel_rfl
 i210:=by kernel_rfl
 i212:=by kernel_rfl
 i232:=by kernel_rfl
 i233:=by kernel_rfl
 m15:=by kernel_rfl
 m16:=by kernel_rfl
 m17:=by kernel_rfl
 m18:=by kernel_rfl
 m19:=by kernel_rfl
 c0:=by kernel_rfl
 c2:=by kernel_rfl
 c3:=by kernel_rfl
 c4:=by kernel_rfl
 c5:=by kernel_rfl
 c9:=by kernel_rfl
 c20:=by kernel_rfl
 c37:=by kernel_rfl
 c46:=by kernel_rfl
 c51:=by kernel_rfl
 c53:=by kernel_rfl
 c75:=by kernel_rfl
 c80:=by kernel_rfl
 c127:=by kernel_rfl
 c143:=by kernel_rfl
 c145:=by kernel_rfl
 c167:=by kernel_rfl
 c168:=by kernel_rfl
 c171:=by kernel_rfl
 c173:=by kernel_rfl
 c210:=by kernel_rfl
 c212:=by kernel_rfl
 c213:=by kernel_rfl
 c232:=by kernel_rfl
 c233:=by kernel_rfl }
open Go.RowKit in
theorem Tryz.strconv_toError_range (fn s:ByteArray) (base bits:Int) (ev:Value) (w:World) (hlim:s.size≤281474976710656) (hv:w.cell? ⟨2,0,none⟩=some ev) (hev:ev=.nilIface∨∃ te pe,ev=.iface te pe) :
  Calls Tryz.prog 106 #[.string fn,.string s,.int .i64 base,.int .i64 bits,.iface 208 (.int .i64 1)] w fun e w'=>∃ N,e=.returned (.iface 209 (.pointer (some ⟨N,0,none⟩)))∧w.heap.size≤N∧w'.heap[N]? = some (.cells #[.string fn,.string s,ev] 252 (0,0))∧Below w.heap.size w w':=Any.strconv_toError_range Tryz.laysC245 fn s base bits ev w hlim hv hev
def Tryz.lays99_ren:Go.Shelf.Ren:=⟨fun | 99=>140 | 206=>179 | n=>n,fun | 9=>9 | 4=>4 | 3=>3 | n=>n,fun | n=>n⟩
theorem Tryz.lays99:Go.Proofs.Lays.n99 Tryz.prog Tryz.lays99_ren:={
 mixed:=by kernel_rfl
 f99:=Tryz.func140.trans (congrArg some (by kernel_rfl))
 f206:=Tryz.func179.trans (congrArg some (by kernel_rfl))
 t3:=Tryz.underlying3
 a3:=Tryz.isAgg3
 z3:=Tryz.sizeOf3
 v3:=Tryz.zeroValue3
 t4:=Tryz.underlying4
 a4:=Tryz.isAgg4
 z4:=Tryz.sizeOf4
 v4:=Tryz.zeroValue4
 t9:=Tryz.underlying9
 a9:=Tryz.isAgg9
 z9:=Tryz.sizeOf9
 v9:=Tryz.zeroValue9 }
open Go.RowKit Go.Lib in
theorem Tryz.strings_HasPrefix (s p:ByteArray) (w:World) :
  Calls Tryz.prog 140 #[.string s,.string p] w fun e w'=>e=.returned (.bool (Lib.hasPrefix s.data.toList p.data.toList))∧w'=w:=Any.strings_HasPrefix Tryz.lays99 s p w
def Tryz.lays146_ren:Go.Shelf.Ren:=⟨fun | 146=>178 | 221=>209 | 268=>227 | 138=>228 | 143=>229 | 195=>235 | 197=>236 | 218=>237 | 219=>238 | 260=>241 | 217=>187 | 225=>242 | 224=>243 | 267=>244 | 266=>213 | 314=>247 | n=>n,fun | 9=>9 | 31=>52 | 3=>3 | 4=>4 | 0=>0 | 105=>294 | 21=>21 | 5=>5 | 46=>177 | 119=>299 | 139=>302 | 138=>301 | 146=>214 | 51=>213 | n=>n,fun | 1=>3 | 3=>7 | 4=>8 | n=>n⟩
theorem Tryz.lays146:Go.Proofs.Lays.n146 Tryz.prog Tryz.lays146_ren:={
 mixed:=by kernel_rfl
 f138:=Tryz.func228.trans (congrArg some (by kernel_rfl))
 f143:=Tryz.func229.trans (congrArg some (by kernel_rfl))
 f146:=Tryz.func178.trans (congrArg some (by kernel_rfl))
 f195:=Tryz.func235.trans (congrArg some (by kernel_rfl))
 f197:=Tryz.func236.trans (congrArg some (by kernel_rfl))
 f217:=Tryz.func187.trans (congrArg some (by kernel_rfl))
 f218:=Tryz.func237.trans (congrArg some (by kernel_rfl))
 f219:=Tryz.func238.trans (congrArg some (by kernel_rfl))
 f221:=Tryz.func209.trans (congrArg some (by kernel_rfl))
 f224:=Tryz.func243.trans (congrArg some (by kernel_rfl))
 f225:=Tryz.func242.trans (congrArg some (by kernel_rfl))
 f260:=Tryz.func241.trans (congrArg some (by kernel_rfl))
 f266:=Tryz.func213.trans (congrArg some (by kernel_rfl))
 f267:=Tryz.func244.trans (congrArg some (by kernel_rfl))
 f268:=Tryz.func227.trans (congrArg some (by kernel_rfl))
 f314:=Tryz.func247.trans (congrArg some (by kernel_rfl))
 t0:=Tryz.underlying0
 a0:=Tryz.isAgg0
 z0:=Tryz.sizeOf0
 v0:=Tryz.zeroValue0
 t3:=Tryz.underlying3
 a3:=Tryz.isAgg3
 z3:=Tryz.sizeOf3
 v3:=Tryz.zeroValue3
 t4:=Tryz.underlying4
 a4:=Tryz.isAgg4
 z4:=Tryz.sizeOf4
 v4:=Tryz.zeroValue4
 t5:=Tryz.underlying5
 a5:=Tryz.isAgg5
 z5:=Tryz.sizeOf5
 v5:=Tryz.zeroValue5
 t9:=Tryz.underlying9
 a9:=Tryz.isAgg9
 z9:=Tryz.sizeOf9
 v9:=Tryz.zeroValue9
 t21:=Tryz.underlying21
 a21:=Tryz.isAgg21
 z21:=Tryz.sizeOf21
 v21:=Tryz.zeroValue21
 t31:=Tryz.underlying52
 a31:=Tryz.isAgg52
 z31:=Tryz.sizeOf52
 v31:=Tryz.zeroValue52
 t46:=Tryz.underlying177
 a46:=Tryz.isAgg177
 z46:=Tryz.sizeOf177
 v46:=Tryz.zeroValue177
 t51:=Tryz.underlying213
 a51:=Tryz.isAgg213
 z51:=Tryz.sizeOf213
 v51:=Tryz.zeroValue213
 t105:=Tryz.underlying294
 a105:=Tryz.isAgg294
 z105:=Tryz.sizeOf294
 v105:=Tryz.zeroValue294
 t119:=Tryz.underlying299
 a119:=Tryz.isAgg299
 z119:=Tryz.sizeOf299
 t138:=Tryz.underlying301
 a138:=Tryz.isAgg301
 z138:=Tryz.sizeOf301
 v138:=Tryz.zeroValue301
 t139:=Tryz.underlying302
 a139:=Tryz.isAgg302
 z139:=Tryz.sizeOf302
 v139:=Tryz.zeroValue302
 t146:=Tryz.underlying214
 a146:=Tryz.isAgg214
 z146:=Tryz.sizeOf214
 v146:=Tryz.zeroValue214
 g1:=by kernel_rfl
 g3:=by kernel_rfl
 g4:=by kernel_rfl }
open Go.RowKit Go.Lib in
theorem Tryz.strings_Split (s sep:ByteArray) (m:Int) (w:World) (hs:s.size<4294967281) (hm:w.cell? ⟨3,0,none⟩=some (.int .i64 m)) (h1:1≤sep.size) :
  Calls Tryz.prog 178 #[.string s,.string sep] w fun e w' =>
   e=.returned (.slice (some ⟨w.heap.size,0,none⟩) (Lib.countB s sep+1) (Lib.countB s sep+1))∧w'=w.alloc (.cells ((Lib.splitB sep 0 (Lib.countB s sep) s).map Value.string).toArray 9):=Any.strings_Split Tryz.lays146 (by kernel_rfl) s sep m w hs hm h1
def Tryz.lays108_ren:Go.Shelf.Ren:=⟨fun | 108=>59 | n=>n,fun | 28=>41 | 3=>3 | 0=>0 | 4=>4 | n=>n,fun | n=>n⟩
theorem Tryz.lays108:Go.Proofs.Lays.n108 Tryz.prog Tryz.lays108_ren:={
 mixed:=by kernel_rfl
 f108:=Tryz.func59.trans (congrArg some (by kernel_rfl))
 t0:=Tryz.underlying0
 a0:=Tryz.isAgg0
 z0:=Tryz.sizeOf0
 v0:=Tryz.zeroValue0
 t3:=Tryz.underlying3
 a3:=Tryz.isAgg3
 z3:=Tryz.sizeOf3
 v3:=Tryz.zeroValue3
 t4:=Tryz.underlying4
 a4:=Tryz.isAgg4
 z4:=Tryz.sizeOf4
 v4:=Tryz.zeroValue4
 t28:=Tryz.underlying41
 a28:=Tryz.isAgg41
 z28:=Tryz.sizeOf41
 v28:=Tryz.zeroValue41 }
open Go.Lib in
theorem Tryz.slices_Index_int (b off n c:Nat) (zs:List Int) (x:Int) (w:World) (hz:n≤zs.length) (hbig:n≤9223372036854775807) (hc:∀ j,j<zs.length→w.cell? ⟨b,off+j,none⟩=some (.int .i64 (zs.getD j 0))) :
  Calls Tryz.prog 59 #[.slice (some ⟨b,off,none⟩) n c,.int .i64 x] w fun e w'=>e=.returned (.int .i64 (Lib.idxOf (zs.take n) x))∧w'=w:=Any.slices_Index_int Tryz.lays108 b off n c zs x w hz hbig hc
def Tryz.lays113_ren:Go.Shelf.Ren:=⟨fun | 113=>60 | n=>n,fun | 28=>41 | 3=>3 | 4=>4 | 9=>9 | 20=>20 | 0=>0 | n=>n,fun | n=>n⟩
theorem Tryz.lays113:Go.Proofs.Lays.n113 Tryz.prog Tryz.lays113_ren:={
 mixed:=by kernel_rfl
 f113:=Tryz.func60.trans (congrArg some (by kernel_rfl))
 t0:=Tryz.underlying0
 a0:=Tryz.isAgg0
 z0:=Tryz.sizeOf0
 v0:=Tryz.zeroValue0
 t3:=Tryz.underlying3
 a3:=Tryz.isAgg3
 z3:=Tryz.sizeOf3
 v3:=Tryz.zeroValue3
 t4:=Tryz.underlying4
 a4:=Tryz.isAgg4
 z4:=Tryz.sizeOf4
 v4:=Tryz.zeroValue4
 t9:=Tryz.underlying9
 a9:=Tryz.isAgg9
 z9:=Tryz.sizeOf9
 v9:=Tryz.zeroValue9
 t20:=Tryz.underlying20
 a20:=Tryz.isAgg20
 z20:=Tryz.sizeOf20
 v20:=Tryz.zeroValue20
 t28:=Tryz.underlying41
 a28:=Tryz.isAgg41
 z28:=Tryz.sizeOf41
 v28:=Tryz.zeroValue41 }
open Go.Lib in
theorem Tryz.slices_Max_int (b off n c:Nat) (zs:List Int) (w:World) (hn:0<n) (hz:n≤zs.length) (hbig:n≤9223372036854775807) (hc:∀ j,j<zs.length→w.cell? ⟨b,off+j,none⟩=some (.int .i64 (zs.getD j 0))) :
  Calls Tryz.prog 60 #[.slice (some ⟨b,off,none⟩) n c] w fun e w'=>e=.returned (.int .i64 (Lib.maxOf (zs.take n)))∧w'=w:=Any.slices_Max_int Tryz.lays113 b off n c zs w hn hz hbig hc
def Tryz.lays111_ren:Go.Shelf.Ren:=⟨fun | 111=>48 | n=>n,fun | 28=>41 | 3=>3 | 4=>4 | 0=>0 | n=>n,fun | n=>n⟩
theorem Tryz.lays111:Go.Proofs.Lays.n111 Tryz.prog Tryz.lays111_ren:={
 mixed:=by kernel_rfl
 f111:=Tryz.func48.trans (congrArg some (by kernel_rfl))
 t0:=Tryz.underlying0
 a0:=Tryz.isAgg0
 z0:=Tryz.sizeOf0
 v0:=Tryz.zeroValue0
 t3:=Tryz.underlying3
 a3:=Tryz.isAgg3
 z3:=Tryz.sizeOf3
 v3:=Tryz.zeroValue3
 t4:=Tryz.underlying4
 a4:=Tryz.isAgg4
 z4:=Tryz.sizeOf4
 v4:=Tryz.zeroValue4
 t28:=Tryz.underlying41
 a28:=Tryz.isAgg41
 z28:=Tryz.sizeOf41
 v28:=Tryz.zeroValue41 }
open Go.RowKit Go.Lib in
theorem Tryz.slices_Equal_int (b1 o1 n c b2 o2 m d:Nat) (xs ys:List Int) (w:World) (hx:n≤xs.length) (hy:m≤ys.length) (hbig:n≤9223372036854775807) (hbig2:m≤9223372036854775807) (hc1:∀ j,j<xs.length→w.cell? ⟨b1,o1+j,none⟩=some (.int .i64 (xs.getD j 0))) (hc2:∀ j,j<ys.length→w.cell? ⟨b2,o2+j,none⟩=some (.int .i64 (ys.getD j 0))) :
  Calls Tryz.prog 48 #[.slice (some ⟨b1,o1,none⟩) n c,.slice (some ⟨b2,o2,none⟩) m d] w fun e w'=>e=.returned (.bool (xs.take n == ys.take m))∧∃ q,w'=w.drewN q:=Any.slices_Equal_int Tryz.lays111 b1 o1 n c b2 o2 m d xs ys w hx hy hbig hbig2 hc1 hc2
open Go.RowKit Go.Lib in
theorem Tryz.slices_Equal_int_empty (a1 a2:Option Addr) (c m d:Nat) (w:World) (hbig2:m≤9223372036854775807) :
  Calls Tryz.prog 48 #[.slice a1 0 c,.slice a2 m d] w fun e w'=>e=.returned (.bool (decide (m=0)))∧w'=w:=Any.slices_Equal_int_empty Tryz.lays111 a1 a2 c m d w hbig2
def Tryz.laysNm215_ren:Go.Shelf.Ren:=⟨fun | 15=>111 | n=>n,fun | 22=>41 | 3=>3 | 4=>4 | n=>n,fun | n=>n⟩
theorem Tryz.laysNm215:Go.Proofs.Lays2.n15 Tryz.prog Tryz.laysNm215_ren:={
 mixed:=by kernel_rfl
 f15:=Tryz.func111.trans (congrArg some (by kernel_rfl))
 t3:=Tryz.underlying3
 a3:=Tryz.isAgg3
 z3:=Tryz.sizeOf3
 v3:=Tryz.zeroValue3
 t4:=Tryz.underlying4
 a4:=Tryz.isAgg4
 z4:=Tryz.sizeOf4
 v4:=Tryz.zeroValue4
 t22:=Tryz.underlying41
 a22:=Tryz.isAgg41
 z22:=Tryz.sizeOf41
 v22:=Tryz.zeroValue41
 i3:=by kernel_rfl }
open Go.RowKit Go.Lib in
theorem Tryz.slices_Clone_int (b off n c:Nat) (zs:List Int) (w:World) (hz:n≤zs.length) (hbig:n*8≤140737488355328) (hc:∀ j,j<zs.length→w.cell? ⟨b,off+j,none⟩=some (.int .i64 (zs.getD j 0))) :
  Calls Tryz.prog 111 #[.slice (some ⟨b,off,none⟩) n c] w fun e w'=>∃ v',e=.returned v'∧w'.ownsRow w.heap.size 3 1 v' n ((zs.take n).map (Value.int .i64))∧v'≠.slice none 0 0∧Below w.heap.size w w':=Any.slices_Clone_int Tryz.laysNm215 b off n c zs w hz hbig hc
open Go.RowKit Go.Lib in
theorem Tryz.slices_Clone_int_nil (n c:Nat) (w:World) :
  Calls Tryz.prog 111 #[.slice none n c] w fun e w'=>e=.returned (.slice none 0 0)∧w'=w:=Any.slices_Clone_int_nil Tryz.laysNm215 n c w
open Go.RowKit Go.Lib in
theorem Tryz.slices_Clone_int_zero (a:Addr) (c:Nat) (w:World) :
  Calls Tryz.prog 111 #[.slice (some a) 0 c] w fun e w'=>∃ v',e=.returned v'∧w'.ownsRow w.heap.size 3 1 v' 0 []∧v'≠.slice none 0 0∧Below w.heap.size w w':=Any.slices_Clone_int_zero Tryz.laysNm215 a c w
open Go.RowKit Go.Lib in
theorem Tryz.slices_Equal_int_lens (a1 a2:Option Addr) (n c m d:Nat) (w:World) (hnm:n≠m) :
  Calls Tryz.prog 48 #[.slice a1 n c,.slice a2 m d] w fun e w'=>e=.returned (.bool false)∧w'=w:=Any.slices_Equal_int_lens Tryz.lays111 a1 a2 n c m d w hnm
end Go.Proofs
