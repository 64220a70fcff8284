/- Joint text: Plain, WalkE. By an AI agent. -/
import Derived.Test.YtkkeocnnecegbaaGreatDoorQ03
import Derived.Laws.IdiomStrings
import Derived.Laws.BytesArg
set_option linter.all false
set_option maxRecDepth 100000
set_option maxHeartbeats 64000000
namespace Go.Proofs.YtkkeocnnecegbaaGreatDoor
open Go.RowKit
theorem zm {c:UInt8} (h:isLet c=true):aU c=false:=by
 rw [uS] at h; rw [mM]
 simp only [Bool.or_eq_true,Bool.and_eq_true,decide_eq_true_eq] at h
 rw [Bool.and_eq_false_iff]
 simp only [decide_eq_false_iff_not]
 omega
theorem uP {c:UInt8} {r:List UInt8} (h:isLet c=true∨aU c=true):aV (c :: r)=0:=by
 have h1:¬ c∈mJ:=by
  intro hm
  simp only [mJ,List.mem_cons,List.not_mem_nil,or_false] at hm
  rcases h with h | h <;>
  ·rcases hm with rfl | rfl | rfl | rfl | rfl | rfl | rfl | rfl | rfl | rfl | rfl | rfl | rfl | rfl | rfl | rfl | rfl | rfl | rfl <;> exact absurd h (by decide)
 have h2:∀ l:List UInt8,¬ (c :: l)∈jk:=by
  intro l hm
  simp only [jk,List.mem_cons,List.not_mem_nil,or_false,List.cons.injEq] at hm
  rcases hm with ⟨rfl,_⟩ | ⟨rfl,_⟩ | ⟨rfl,_⟩ | ⟨rfl,_⟩ | ⟨rfl,_⟩ <;> exact absurd h (by decide)
 have h3:∀ l:List UInt8,isMarkS (c :: l)=false:=by
  intro l
  unfold isMarkS
  simp only [h2 l,decide_false,Bool.false_or]
  split
  ·rename_i c' e; injection e with e1 e2; subst e1; simp [h1]
  ·rfl
 unfold aV
 cases r with
 | nil=>simp [h3]
 | cons d r=>simp [h3]
theorem KS (a b c:Nat):Lib.maxOf (([0,(a:Int),0,(b:Int),(c:Int)]:List Int).take 5)=((max a (max b c):Nat):Int):=by
 simp [Lib.maxOf]
 omega
theorem KQ (a:Nat) (h:0<a):Lib.idxOf (([0,(a:Int),0,((0:Nat):Int),((0:Nat):Int)]:List Int).take 5) (a:Int)=1:=by
 have h1:¬ (0:Int)=a:=by omega
 simp [Lib.idxOf,Lib.idxFrom,h1]
theorem KO (a:Nat) (h:0<a):Lib.idxOf (([0,((0:Nat):Int),0,(a:Int),((0:Nat):Int)]:List Int).take 5) (a:Int)=3:=by
 have h1:¬ (0:Int)=a:=by omega
 simp [Lib.idxOf,Lib.idxFrom,h1]
theorem KM (a:Nat) (h:0<a):Lib.idxOf (([0,((0:Nat):Int),0,((0:Nat):Int),(a:Int)]:List Int).take 5) (a:Int)=4:=by
 have h1:¬ (0:Int)=a:=by omega
 simp [Lib.idxOf,Lib.idxFrom,h1]
theorem KR (b c:Int):Lib.idxOf (([0,b,0,0,c]:List Int).take 5) 0=0:=by
 simp [Lib.idxOf,Lib.idxFrom]
def pick (l:List UInt8):Nat×Nat:=match l with
 | []=>(0,0)
 | c :: _=>if isLet c then (1,aQ gY l) else if aU c then (3,aQ aU l) else if aV l=0 then (0,0) else (4,aV l)
def lens (l:List UInt8):List Int:=[0,(nWord l:Int),0,(aQ aU l:Int),(aV l:Int)]
theorem FP (l:List UInt8) (h:l≠[]):Lib.maxOf ((lens l).take 5)=((pick l).2:Int)∧Lib.idxOf ((lens l).take 5) ((pick l).2:Int)=((pick l).1:Int)∧(pick l).1<5∧(lens l).getD (pick l).1 0=((pick l).2:Int)∧(pick l).2≤l.length:=by
 match l,h with
 | c :: r,_ =>
  unfold lens
  rw [KS]
  have hle:=kG gY (c :: r)
  have hle2:=kG aU (c :: r)
  have hle3:=rE (c :: r)
  cases h1:isLet c
  ·cases h2:aU c
   ·have hn:nWord (c :: r)=0:=by simp [nWord,h1]
    have hd:aQ aU (c :: r)=0:=lv h2
    rw [hn,hd]
    by_cases h3:aV (c :: r)=0
    ·have hp:pick (c :: r)=(0,0):=by simp [pick,h1,h2,h3]
     rw [hp,h3]
     exact⟨rfl,KR _ _,by decide,rfl,Nat.zero_le _⟩
    ·have hp:pick (c :: r)=(4,aV (c :: r)):=by simp [pick,h1,h2,h3]
     rw [hp]
     exact⟨by simp,KM _ (by omega),(by show 4<5; omega),rfl,hle3⟩
   ·have hn:nWord (c :: r)=0:=by simp [nWord,h1]
    have hm:=uP (r:=r) (Or.inr h2)
    have hpos:0<aQ aU (c :: r):=jL h2
    have hp:pick (c :: r)=(3,aQ aU (c :: r)):=by simp [pick,h1,h2]
    rw [hn,hm,hp]
    exact⟨by simp,KO _ hpos,(by show 3<5; omega),rfl,hle2⟩
  ·have hn:nWord (c :: r)=aQ gY (c :: r):=by simp [nWord,h1]
   have hm:=uP (r:=r) (Or.inl h1)
   have hd:aQ aU (c :: r)=0:=lv (zm h1)
   have hpos:0<aQ gY (c :: r):=jL (by simp [gY,h1])
   have hp:pick (c :: r)=(1,aQ gY (c :: r)):=by simp [pick,h1]
   rw [hn,hm,hd,hp]
   exact⟨by simp,KQ _ hpos,(by show 1<5; omega),rfl,hle⟩
theorem A9 {p:UInt8→Bool} {r:List UInt8}:∀ c∈r.take (aQ p r),p c=true:=by
 intro c hc
 have:r.take (aQ p r)=r.takeWhile p:=by
  unfold aQ
  exact (List.prefix_iff_eq_take.1 (List.takeWhile_prefix p)).symm
 rw [this] at hc
 exact List.all_eq_true.1 (List.all_takeWhile) c hc
theorem zJ (M acc:Nat) (l:List UInt8) (h:∀ c∈l,aU c=true):Lib.parseUintM M acc l≠Lib.NumEnd.syntax:=by
 induction l generalizing acc with
 | nil=>simp [Lib.parseUintM]
 | cons c r ih =>
  have hc:=h c (by simp)
  rw [mM] at hc
  simp only [Bool.and_eq_true,decide_eq_true_eq] at hc
  have h1:48≤c.toNat∧c.toNat≤57:=by omega
  simp only [Lib.parseUintM,if_pos h1]
  split
  ·simp
  ·split
   ·simp
   ·exact ih _ (fun d hd=>h d (by simp [hd]))
theorem xD {l:List UInt8} (h:gZ l=true):∃ c r,l=c :: r∧isLet c=true:=by
 have h':l∈oI:=of_decide_eq_true h
 simp only [oI,List.mem_cons,List.not_mem_nil,or_false] at h'
 rcases h' with rfl | rfl | rfl | rfl | rfl | rfl | rfl | rfl | rfl | rfl <;> exact⟨_,_,rfl,by decide⟩
theorem tok_law (c:UInt8) (r:List UInt8):((pick (c :: r)).2=0→tokAt (c :: r)=.error 130) ∧
  (0<(pick (c :: r)).2→gZ ((c :: r).take (pick (c :: r)).2)=true→tokAt (c :: r)=.ok (2,(pick (c :: r)).2,0)) ∧
  (0<(pick (c :: r)).2→gZ ((c :: r).take (pick (c :: r)).2)=false→(pick (c :: r)).1≠3→tokAt (c :: r)=.ok ((pick (c :: r)).1,(pick (c :: r)).2,0)) ∧
  (0<(pick (c :: r)).2→(pick (c :: r)).1=3→(∀ d∈(c :: r).take (pick (c :: r)).2,aU d=true)∧tokAt (c :: r)=match numS ((c :: r).take (pick (c :: r)).2) with | some v=>.ok (3,(pick (c :: r)).2,v) | none=>.error 131):=by
 have hw:gY=fun c=>isLet c || aU c:=rfl
 cases h1:isLet c
 ·cases h2:aU c
  ·by_cases h3:aV (c :: r)=0
   ·have hp:pick (c :: r)=(0,0):=by simp [pick,h1,h2,h3]
    rw [hp]
    exact⟨fun _=>by simp [tokAt,h1,h2,h3],fun h=>absurd h (Nat.lt_irrefl _),fun h=>absurd h (Nat.lt_irrefl _),fun h=>absurd h (Nat.lt_irrefl _)⟩
   ·have hp:pick (c :: r)=(4,aV (c :: r)):=by simp [pick,h1,h2,h3]
    rw [hp]
    refine⟨fun h=>absurd h h3,fun h hW=>?_,fun _ _ _=>by simp [tokAt,h1,h2,h3],fun _ h=>by simp at h⟩
    obtain ⟨d,r',e,hd⟩:=xD hW
    have:d=c:=by
     have h':=congrArg List.head? e
     rw [List.head?_take] at h'
     simp [h3] at h'
     exact h'.symm
    rw [this,h1] at hd; cases hd
  ·have hp:pick (c :: r)=(3,aQ aU (c :: r)):=by simp [pick,h1,h2]
   have hpos:0<aQ aU (c :: r):=jL h2
   rw [hp]
   refine⟨fun h=>absurd h (by show aQ aU (c :: r)≠0; omega),fun h hW=>?_,fun _ _ h=>absurd rfl h,fun _ _=>⟨A9,by simp only [tokAt,h1,h2,if_true]; rfl⟩⟩
   obtain ⟨d,r',e,hd⟩:=xD hW
   have:d=c:=by
    have h':=congrArg List.head? e
    rw [List.head?_take,if_neg (show ¬ aQ aU (c :: r)=0 by omega)] at h'
    simp at h'
    exact h'.symm
   rw [this,h1] at hd; cases hd
 ·have hp:pick (c :: r)=(1,aQ gY (c :: r)):=by simp [pick,h1]
  have hpos:0<aQ gY (c :: r):=jL (by simp [gY,h1])
  rw [hp]
  refine⟨fun h=>absurd h (by show aQ gY (c :: r)≠0; omega),fun _ hW=>?_,fun _ hW _=>?_,fun _ h=>by simp at h⟩
  ·simp only at hW
   rw [hw] at hW ⊢
   simp only [tokAt,h1,if_true,hW]
  ·simp only at hW
   rw [hw] at hW ⊢
   simp only [tokAt,h1,if_true,hW]
   rfl
theorem I5 {l:List UInt8} {p f:Nat} {acc:List Tok} {c:UInt8} {r:List UInt8} {R:Except (Nat×Int) (List Tok)} (hd:l.drop p=c :: r) (hf:l.length - p≤f) (hlt:p<l.length) (hb:dQ c=true) (h:lexFrom f (l.drop p) p acc=R) :
  ∃ f',l.length - (p+1)≤f'∧lexFrom f' (l.drop (p+1)) (p+1) acc=R:=by
 obtain ⟨f',rfl⟩:∃ f',f=f'+1:=⟨f - 1,by omega⟩
 refine⟨f',by omega,?_⟩
 rw [hd,lexFrom,if_pos hb] at h
 have:l.drop (p+1)=r:=by rw [← List.drop_drop,hd]; rfl
 rw [this]; exact h
theorem qi {l:List UInt8} {p f:Nat} {acc:List Tok} {c:UInt8} {r:List UInt8} {R:Except (Nat×Int) (List Tok)} {k N:Nat} {v:Int} (hd:l.drop p=c :: r) (hf:l.length - p≤f) (hlt:p<l.length) (hb:dQ c=false) (hN:0<N) (ht:tokAt (c :: r)=.ok (k,N,v)) (h:lexFrom f (l.drop p) p acc=R) :
  ∃ f',l.length - (p+N)≤f'∧lexFrom f' (l.drop (p+N)) (p+N) (acc ++ [⟨k,(l.drop p).take N,v,p⟩])=R:=by
 obtain ⟨f',rfl⟩:∃ f',f=f'+1:=⟨f - 1,by omega⟩
 refine⟨f',by omega,?_⟩
 rw [hd,lexFrom,if_neg (by simp [hb]),ht] at h
 rw [← List.drop_drop,hd]; exact h
theorem tC {l:List UInt8} {p f:Nat} {acc:List Tok} {c:UInt8} {r:List UInt8} {R:Except (Nat×Int) (List Tok)} {e:Int} (hd:l.drop p=c :: r) (hf:l.length - p≤f) (hlt:p<l.length) (hb:dQ c=false) (ht:tokAt (c :: r)=.error e) (h:lexFrom f (l.drop p) p acc=R) :
  R=.error (p,e):=by
 obtain ⟨f',rfl⟩:∃ f',f=f'+1:=⟨f - 1,by omega⟩
 rw [hd,lexFrom,if_neg (by simp [hb]),ht] at h
 exact h.symm
theorem I8 {l:List UInt8} {p f:Nat} {acc:List Tok} {R:Except (Nat×Int) (List Tok)} (hp:l.length≤p) (h:lexFrom f (l.drop p) p acc=R):R=.ok (acc ++ [⟨5,[],0,p⟩]):=by
 rw [List.drop_eq_nil_of_le hp] at h
 cases f <;> exact h.symm
def yB (t:Tok):List Value:=[.int .u8 t.kind,.string ⟨t.text.toArray⟩,.int .i64 t.n,.int .i64 t.at']
def dW (l:List Tok):List Value:=l.flatMap yB
theorem iJ (l:List Tok) (t:Tok):dW (l ++ [t])=dW l ++ yB t:=by simp [dW]
theorem yJ (l:List Tok) (i:Nat) (h:i<l.length):(dW l)[i*4]? = some (.int .u8 l[i].kind)∧(dW l)[i*4+1]? = some (.string ⟨l[i].text.toArray⟩)∧(dW l)[i*4+2]? = some (.int .i64 l[i].n)∧(dW l)[i*4+3]? = some (.int .i64 l[i].at'):=by
 induction l generalizing i with
 | nil=>simp at h
 | cons t l ih =>
  cases i with
  | zero=>exact⟨rfl,rfl,rfl,rfl⟩
  | succ i =>
   have h':i<l.length:=by simpa using h
   obtain ⟨a,b,c,d⟩:=ih i h'
   have e:dW (t :: l)=yB t ++ dW l:=by simp [dW]
   have hs (k:Nat):(dW (t :: l))[(i+1)*4+k]? = (dW l)[i*4+k]?:=by
    rw [e,List.getElem?_append_right (by simp [yB]; omega)]
    congr 1
    simp [yB]; omega
   have h0:=hs 0
   simp only [Nat.add_zero] at h0
   refine⟨h0.trans a,(hs 1).trans b,(hs 2).trans c,(hs 3).trans d⟩
def eP (w:World) (a:Option Addr) (l:List UInt8):Prop:=(l=[]∧True)∨∃ b o,a=some ⟨b,o,none⟩∧∀ i (h:i<l.length),w.cell? ⟨b,o+i,none⟩=some (.int .u8 l[i].toNat)
theorem eP.below {w w':World} {a:Option Addr} {l:List UInt8} (h:eP w a l) (hb:Below w.heap.size w w'):eP w' a l:=by
 rcases h with h | ⟨b,o,e,h⟩
 ·exact Or.inl h
 ·exact Or.inr ⟨b,o,e,fun i hi=>(hb.cell (p:=⟨b,o+i,none⟩) (aa (h i hi))).trans (h i hi)⟩
theorem eP.conv {w:World} {a:Option Addr} {l:List UInt8} (h:eP w a l) (c:Nat):(convert 30 9 (.slice a l.length c)).run Tryz.prog w=.ok (.string ⟨l.toArray⟩) w:=by
 rcases h with ⟨rfl,_⟩ | ⟨b,o,rfl,h⟩
 ·cases a with
  | none=>exact run_convert_bytes_nil w 30 5 Tryz.underlying30 Tryz.underlying5 0 c 9 Tryz.underlying9
  | some a=>exact run_convert_bytes_back w 30 9 5 a c [] Tryz.underlying30 Tryz.underlying5 Tryz.underlying9 (fun j hj=>absurd hj (Nat.not_lt_zero _))
 ·exact run_convert_bytes_back w 30 9 5 _ c l Tryz.underlying30 Tryz.underlying5 Tryz.underlying9 (fun j hj=>by
   have e:(⟨b,o,none⟩:Addr).add j=⟨b,o+j,none⟩:=by unfold Addr.add; split <;> simp_all
   rw [e]; exact h j hj)
def EW (w:World):Prop:=∃ ev,w.cell? ⟨2,0,none⟩=some ev∧(ev=.nilIface∨∃ te pe,ev=.iface te pe)
theorem EW.below {w w':World} (h:EW w) (hb:Below w.heap.size w w'):EW w':=by
 obtain ⟨ev,h1,h2⟩:=h
 exact⟨ev,(hb.cell (p:=⟨2,0,none⟩) (aa h1)).trans h1,h2⟩
end Go.Proofs.YtkkeocnnecegbaaGreatDoor
namespace Go.Proofs.YtkkeocnnecegbaaGreatDoor
open Go.RowKit
theorem tJ (t:ByteArray) (v:Nat) (hne:t.size≠0) (hmax:t.size≤1000000) (hdg:∀ c∈t.data.toList,aU c=true) (hv:Lib.parseUintM 2147483647 0 t.data.toList=.ok v) (w:World) :
  Calls Tryz.prog 62 #[.string t,.int .i64 10,.int .i64 31] w fun e w'=>e=.returned (.tuple #[.int .u64 v,.nilIface])∧Below w.heap.size w w':=by
 have HC:=Lib.hid (sG t hne hmax hdg w)
 rw [hv] at HC
 clear hdg hv
 have hb:Below w.heap.size w (Lib.bytesWorld w 5 t):=Lib.bytesWorld_below w 5 t
 go_enter Tryz.func62,Tryz.ntmps62
 go_wp2_with (go_at_call 105; refine HC.out.mono ?_; rintro e w' ⟨rfl,rfl⟩; simp only [Lib.uintTupleM])
 go_ret2
 exact⟨rfl,hb⟩
theorem AY (t:ByteArray) (hne:t.size≠0) (hmax:t.size≤1000000) (hdg:∀ c∈t.data.toList,aU c=true) (hv:Lib.parseUintM 2147483647 0 t.data.toList=.range) (w:World) (hw:EW w) :
  Calls Tryz.prog 62 #[.string t,.int .i64 10,.int .i64 31] w fun e w'=>∃ N,e=.returned (.tuple #[.int .u64 2147483647,.iface 209 (.pointer (some ⟨N,0,none⟩))])∧Below w.heap.size w w':=by
 have HC:=Lib.hid (sG t hne hmax hdg w)
 rw [hv] at HC
 clear hdg hv
 have hb:Below w.heap.size w (Lib.bytesWorld w 5 t):=Lib.bytesWorld_below w 5 t
 obtain ⟨ev,he1,he2⟩:=hw.below hb
 have HE:=Lib.hid he2; have HB:=Lib.hid hb; have HE1:=Lib.hid he1
 clear he1 he2 hb hw
 go_enter Tryz.func62,Tryz.ntmps62
 go_wp2_with (first
  | (go_at_call 105; refine HC.out.mono ?_; rintro e w' ⟨rfl,rfl⟩; simp only [Lib.uintTupleM])
  | (go_at_call 106; refine (Tryz.strconv_toError_range _ t 10 31 ev _ (by omega) HE1.out HE.out).mono ?_; rintro e w2 ⟨N,rfl,_,_,hb2⟩))
 go_ret2
 exact⟨N,rfl,ag HB.out hb2⟩
end Go.Proofs.YtkkeocnnecegbaaGreatDoor
