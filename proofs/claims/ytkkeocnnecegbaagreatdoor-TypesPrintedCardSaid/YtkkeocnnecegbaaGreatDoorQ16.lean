/- Joint text: JF. By an AI agent. -/
import Derived.Test.YtkkeocnnecegbaaGreatDoorQ01
import Derived.Test.YtkkeocnnecegbaaGreatDoorQ15
import Derived.Lib.ItoaMem
set_option linter.all false
set_option maxRecDepth 100000
set_option maxHeartbeats 64000000
namespace Go.Proofs.YtkkeocnnecegbaaGreatDoor
open Go.RowKit
theorem Aj {v:Nat} (h:v<10):Lib.decDigits v=[UInt8.ofNat (48+v)]:=Lib.decDigits_one h
theorem FB {v:Nat} (h:¬ v<10):Lib.decDigits v=Lib.decDigits (v / 10) ++ [UInt8.ofNat (48+v % 10)]:=by
 rw [Lib.decDigits,dif_neg h]
theorem DY {c:UInt8} (h1:48≤c.toNat) (h2:c.toNat≤57):UInt8.ofNat (48+(c.toNat - 48))=c:=by
 apply UInt8.toNat.inj
 rw [UInt8.toNat_ofNat']
 omega
theorem uJ {M:Nat}:∀ (l:List UInt8) (acc v:Nat),0<acc→Lib.parseUintM M acc l=.ok v→Lib.decDigits v=Lib.decDigits acc ++ l
 | [],acc,v,_,h=>by
  simp only [Lib.parseUintM] at h
  injection h with h
  rw [h,List.append_nil]
 | c :: r,acc,v,h0,h=>by
  simp only [Lib.parseUintM] at h
  split at h
  ·rename_i hc
   split at h
   ·cases h
   ·split at h
    ·cases h
    ·rw [uJ r _ v (by omega) h,FB (v:=acc*10+(c.toNat - 48)) (by omega),show (acc*10+(c.toNat - 48)) / 10=acc by omega,show (acc*10+(c.toNat - 48)) % 10=c.toNat - 48 by omega,DY hc.1 hc.2]
     simp
  ·cases h
theorem FK {l:List UInt8} {v:Int} (h:numS l=some v) (hne:l≠[]):l=Lib.itoa v∧0≤v∧v≤2147483647:=by
 unfold numS at h
 split at h
 ·rename_i u hu
  split at h
  ·cases h
  ·rename_i hz
   injection h with h
   subst h
   have hle:=Lib.parseUintM_le _ l 0 u (Nat.zero_le _) hu
   refine⟨?_,by omega,by omega⟩
   rw [Lib.itoa_nonneg]
   cases l with
   | nil=>exact absurd rfl hne
   | cons c r =>
    by_cases hc:c=48
    ·subst hc
     have:(48:UInt8) :: r=[48]:=by
      apply Classical.byContradiction
      intro hh
      exact hz ⟨hh,rfl⟩
     injection this with _ this
     subst this
     simp only [Lib.parseUintM] at hu
     simp at hu
     subst hu
     rw [Aj (by omega)]; rfl
    ·simp only [Lib.parseUintM] at hu
     split at hu
     ·rename_i hcc
      split at hu
      ·cases hu
      ·split at hu
       ·cases hu
       ·have hp:0<0*10+(c.toNat - 48):=by
         have:c.toNat≠48:=fun hh=>hc (UInt8.toNat.inj hh)
         omega
        rw [uJ r _ u hp hu,Aj (v:=0*10+(c.toNat - 48)) (by omega),Nat.zero_mul,Nat.zero_add,DY hcc.1 hcc.2]
        rfl
     ·cases hu
 ·cases h
theorem Js {t:Tok} (h:Self t):TG t:=by
 obtain ⟨c,r,h1,h2,h3⟩:=h
 unfold tokAt at h3
 simp only at h3
 split at h3
 ·rename_i hl
  injection h3 with h3
  simp only [Prod.mk.injEq] at h3
  obtain ⟨h4,h5,h6⟩:=h3
  rw [h5,List.take_length] at h4
  split at h4
  ·exact Or.inr (Or.inl ⟨h4.symm,h6.symm⟩)
  ·rename_i hw
   refine Or.inl ⟨h4.symm,h6.symm,?_⟩
   rw [h1]
   unfold gX
   simp [hl,hw,h5]
 ·split at h3
  ·split at h3
   ·rename_i v hv
    injection h3 with h3
    simp only [Prod.mk.injEq] at h3
    obtain ⟨h4,h5,h6⟩:=h3
    rw [h5,List.take_length] at hv
    subst h6
    obtain ⟨g1,g2,g3⟩:=FK hv (List.cons_ne_nil _ _)
    exact Or.inr (Or.inr (Or.inl ⟨h4.symm,by rw [h1]; exact g1,g2,g3⟩))
   ·cases h3
  ·split at h3
   ·cases h3
   ·injection h3 with h3
    simp only [Prod.mk.injEq] at h3
    obtain ⟨h4,h5,h6⟩:=h3
    exact Or.inr (Or.inr (Or.inr (Or.inl ⟨h4.symm,h6.symm⟩)))
theorem xU {l:List UInt8} {p:Nat} {ts:List Tok} (h:lx l p=.ok ts):TGs ts:=by
 obtain ⟨inner,e,rfl,hi⟩:=FX h
 intro t ht
 rcases List.mem_append.1 ht with ht | ht
 ·exact Js (hi t ht)
 ·simp only [List.mem_singleton] at ht; subst ht; exact Or.inr (Or.inr (Or.inr (Or.inr ⟨rfl,rfl⟩)))
theorem Cr {l:List UInt8} {p:Nat} {ts:List Tok} (h:lx l p=.ok ts):Wt ts≤2*l.length+1:=by
 have:∀ l p,∀ ts,lx l p=.ok ts→Wt ts≤2*l.length+1:=by
  refine mi (fun p ts h=>?_) (fun c r p hb ih ts h=>?_) (fun c r p e' hb ht ts h=>?_) (fun c r p k n v hb ht ih ts h=>?_)
  ·rw [j6] at h; injection h with h; subst h; exact Nat.le_refl 1
  ·rw [kV hb] at h; have:=ih ts h; simp only [List.length_cons]; omega
  ·rw [kX hb ht] at h; cases h
  ·rw [jW hb ht] at h
   have hl:=gB ht
   cases hh:lx ((c :: r).drop n) (p+n) with
   | error e=>rw [hh] at h; cases h
   | ok us =>
    rw [hh] at h
    injection h with h
    subst h
    have:=ih us hh
    rw [List.length_drop] at this
    rw [jK,List.length_take]
    omega
 exact this l p ts h
theorem DW:∀ (N:Nat) (x:Item),sizeI x≤N→WX x→∀ of,sizeI x≤wt (outX of x):=by
 intro N
 induction N with
 | zero=>intro x h; have:=aW x; omega
 | succ N ih =>
  intro x hN hw of
  rcases fV hw with ⟨n,a,rfl⟩ | ⟨t,a,rfl⟩ | ⟨t,a,y,rfl,hy⟩ | ⟨n,a,y,rfl,hn,hy⟩ | ⟨n,a,y,z,rfl,hn1,hn2,hy,hz⟩
  ·simp only [sizeI,sizeL,outX,wh,bE]; omega
  ·simp only [sizeI,sizeL,outX,dE,bE]; omega
  ·simp only [sizeI,sizeL] at hN
   have:=ih y (by omega) hy 1
   simp only [sizeI,sizeL,outX,dE,aT,az,bE]; omega
  ·simp only [sizeI,sizeL] at hN
   have:=ih y (by omega) hy 4
   simp only [sizeI,sizeL,outX,aT]; omega
  ·simp only [sizeI,sizeL] at hN
   have h1:=ih y (by omega) hy (aA ((n:Int)).toNat)
   have h2:=ih z (by omega) hz (aA ((n:Int)).toNat+1)
   simp only [sizeI,sizeL,outX]
   split
   ·simp only [aT,az,bE]; omega
   ·simp only [aT,az]; omega
theorem iZ {x:Item} (h:WX x) (of:Nat):sizeI x≤wt (outX of x):=DW _ x (Nat.le_refl _) h of
theorem zT:∀ (l:List Item) (b:Bool),WXs l→sizeL l≤wt (outA b l)
 | [],_,_=>by simp [sizeL]
 | x :: r,b,h=>by
  have h1:=iZ h.1 1
  have h2:=zT r false h.2
  cases b <;> simp only [sizeL,outA,az] <;> simp [wt] <;> omega
theorem Eb:∀ (N:Nat) (b:Bool) (x:Item),sizeI x≤N→WS b x→sizeI x≤wt (outS x):=by
 intro N
 induction N with
 | zero=>intro b x h; have:=aW x; omega
 | succ N ih =>
  intro b x hN hw
  cases hw with
  | block a l hl =>
   simp only [sizeI] at hN
   have key:∀ l:List Item,(∀ x∈l,WS true x)→sizeL l≤N→sizeL l≤wt (dI l):=by
    intro l
    induction l with
    | nil=>intro _ _; simp [sizeL]
    | cons y r ihl =>
     intro h1 h2
     simp only [sizeL] at h2
     have g1:=ih true y (by omega) (h1 y (List.mem_cons_self ..))
     have g2:=ihl (fun z hz=>h1 z (List.mem_cons_of_mem _ hz)) (by omega)
     simp only [sizeL,dI,az]; omega
   have:=key l hl (by omega)
   simp only [sizeI,outS,aT,az,bE]; omega
  | declare t a x hx =>
   have:=iZ hx 1
   simp only [sizeI,sizeL,outS,aT,cK,dE,az,bE]; omega
  | assign t a x hx =>
   have:=iZ hx 1
   simp only [sizeI,sizeL,outS,aT,dE,az,bE]; omega
  | store t a x y hx hy =>
   have h1:=iZ hx 1
   have h2:=iZ hy 1
   simp only [sizeI,sizeL,outS,aT,dE,az,bE]; omega
  | if1 a x b hx hb =>
   simp only [sizeI,sizeL] at hN
   have h1:=iZ hx 1
   have h2:=ih _ b (by omega) hb
   simp only [sizeI,sizeL,outS,cK,az]; omega
  | if2 a x b c hx hb hc =>
   simp only [sizeI,sizeL] at hN
   have h1:=iZ hx 1
   have h2:=ih _ b (by omega) hb
   have h3:=ih _ c (by omega) hc
   simp only [sizeI,sizeL,outS,cK,az]; omega
  | for1 a x b hx hb =>
   simp only [sizeI,sizeL] at hN
   have h1:=iZ hx 1
   have h2:=ih _ b (by omega) hb
   simp only [sizeI,sizeL,outS,cK,az]; omega
  | ret k a x hk hx =>
   have h1:=iZ hx 1
   rcases hk with rfl | rfl | rfl <;> simp only [sizeI,sizeL,outS,aT,cK,az,bE] <;> omega
  | read t a =>
   simp only [sizeI,sizeL,outS,aT,cK,dE,bE]; omega
  | call t a u b l hl =>
   have h1:=zT l true hl
   simp only [sizeI,sizeL,outS,aT,cK,dE,az,bE]; omega
theorem wV:∀ (l:List Item) (b:Bool),(∀ x∈l,WN 4 x)→sizeL l≤wt (di b l)
 | [],_,_=>by simp [sizeL]
 | x :: r,b,h=>by
  have h2:=wV r false (fun z hz=>h z (List.mem_cons_of_mem _ hz))
  have h1:sizeI x=1:=by
   obtain ⟨k,t,n,a,ks⟩:=x
   have:=h _ (List.mem_cons_self ..)
   simp only [WN] at this
   obtain ⟨_,_,rfl⟩:=this
   rfl
  cases b <;> simp only [sizeL,di,az,dE] <;> simp [wt] <;> omega
theorem Dv (a b:List Item):sizeL (a ++ b)=sizeL a+sizeL b:=by
 induction a with
 | nil=>simp [sizeL]
 | cons x r ih=>simp only [List.cons_append,sizeL,ih]; omega
theorem IB {x:Item} (h:WD x):sizeI x≤wt (outD x):=by
 cases h with
 | array t n a=>simp only [sizeI,sizeL,outD,cK,dE,aT,wh,bE]; omega
 | func t a l b hl hb =>
  have h1:=wV l true hl
  have h2:=Eb _ false b (Nat.le_refl _) hb
  simp only [sizeI,outD,Dv,sizeL,cK,dE,aT,az,List.dropLast_concat,List.getLast?_concat]
  omega
theorem tZ {x:Item} (h:WP x):sizeI x≤wt (gM x)+1:=by
 obtain ⟨k,t,n,a,l⟩:=x
 obtain ⟨_,_,_,hl⟩:=h
 have key:∀ l:List Item,(∀ x∈l,WD x)→sizeL l≤wt (cZ l):=by
  intro l
  induction l with
  | nil=>intro _; simp [sizeL]
  | cons y r ih =>
   intro h
   have g1:=IB (h y (List.mem_cons_self ..))
   have g2:=ih (fun z hz=>h z (List.mem_cons_of_mem _ hz))
   simp only [sizeL,cZ,az]; omega
 have:=key l hl
 simp only [sizeI,gM]; omega
theorem vg {l:List UInt8} {ts:List Tok} {x:Item} (hl:fZ l=.ok ts) (h:progS ts=.ok x):sizeI x≤2*l.length+2:=by
 obtain ⟨h1,h2,h3,h4⟩:=oG (jB hl) (xU (by rw [← je]; exact hl)) h
 have h5:=tZ h1
 have h6:=Cr (l:=l) (p:=0) (by rw [← je]; exact hl)
 omega
end Go.Proofs.YtkkeocnnecegbaaGreatDoor
namespace Go.Proofs.YtkkeocnnecegbaaGreatDoor
open Go.RowKit
def Ii (x:Tk):Tok:=⟨x.1,x.2.1,x.2.2,0⟩
def qa (l:List Tk):List UInt8:=Lib.join (l.map (·.2.1)) [32]
theorem GI {l:List Tk} (h:gN l):∃ bs,fZ (qa l)=.ok bs∧tks bs=l ++ [(5,[],0)]:=by
 obtain ⟨bs,h1,h2⟩:=IW (l.map Ii) (fun t ht=>by
  obtain ⟨x,hx,rfl⟩:=List.mem_map.1 ht
  exact h x hx) 0
 refine⟨bs,?_,?_⟩
 ·rw [je,qa]
  rw [List.map_map] at h1
  exact h1
 ·have e:(l.map Ii).map strip=l:=by
   rw [List.map_map]
   exact List.map_id' l
  rw [e] at h2
  exact h2
def dC (x:Item):List UInt8:=qa (gM x)
theorem Gt {x:Item} (h:WP x) (hg:bz x):∃ bs,fZ (dC x)=.ok bs∧tks bs=gM x ++ [(5,[],0)]:=GI (Eo h hg)
theorem Db {x:Item} (h:WP x) (hg:bz x) (hd:Bp x≤64):∃ bs x',fZ (dC x)=.ok bs∧progS bs=.ok x'∧erase x'=erase x:=by
 obtain ⟨bs,h1,h2⟩:=Gt h hg
 obtain ⟨us,cs,rfl,h3,h4⟩:=dR h2
 obtain ⟨c,rfl,h5⟩:=iM h4
 obtain ⟨x',h6,h7⟩:=back h h3 (c:=c) (by have:=(fF h5).1; exact this) hd
 exact⟨_,x',h1,h6,h7⟩
theorem joinTail_length (l:List Tk):(Lib.joinTail [32] (l.map (·.2.1))).length≤wt l:=by
 induction l with
 | nil=>simp [Lib.joinTail]
 | cons x r ih =>
  unfold Lib.joinTail at ih ⊢
  simp only [List.map_cons,List.flatten_cons,List.length_append,List.length_cons,List.length_nil,wt] at ih ⊢
  omega
theorem kg (l:List Tk):(qa l).length≤wt l:=by
 cases l with
 | nil=>simp [qa,Lib.join_nil]
 | cons x r =>
  have:=joinTail_length r
  rw [qa,List.map_cons,Lib.join_cons,List.length_append]
  simp only [wt]
  omega
def mG (x:Item):Prop:=∃ bs x',fZ (dC x)=.ok bs∧progS bs=.ok x'∧erase x'=erase x
structure df (G:List GN) (x:Item):Prop where
 at0:AtI G 0 x
 len:G.length=sizeI x
 sh:ShapedI x
 k1:aK x=1
def iX (G:List GN):Prop:=∃ x,df G x∧mG x
theorem df.wp {G:List GN} {x:Item} (h:df G x):WP x∧bz x:=C8 h.sh h.k1
theorem df.same {G H:List GN} {x y:Item} (h:df G x) (h':df H y):iE G H↔erase x=erase y :=
 ⟨fun hs=>sS hs h.at0 h'.at0,fun e=>wR h.at0 h'.at0 e h.len h'.len⟩
theorem df.uniq {G:List GN} {x y:Item} (h:df G x) (h':df G y):erase x=erase y:=(h.same h').1 (Bi G)
theorem df.text {G H:List GN} {x y:Item} (h:df G x) (h':df H y) (e:erase x=erase y):dC x=dC y:=by
 unfold dC; rw [uV h.wp.1 h'.wp.1 e]
theorem df.right {G:List GN} {x:Item} (h:df G x):iX G↔mG x:=by
 constructor
 ·rintro ⟨y,hy,bs,y',h1,h2,h3⟩
  have e:=hy.uniq h
  exact⟨bs,y',by rw [← hy.text h e]; exact h1,h2,h3.trans e⟩
 ·exact fun hr=>⟨x,h,hr⟩
theorem wH {l:List UInt8} {ts:List Tok} {x:Item} (hl:fZ l=.ok ts) (h:progS ts=.ok x):df ((flat 0 x).map gn) x∧mG x∧(dC x).length≤2*l.length+1:=by
 have hlx:lx l 0=.ok ts:=by rw [← je]; exact hl
 obtain ⟨h1,h2,h3,h4⟩:=oG (jB hl) (xU hlx) h
 obtain ⟨s1,s2⟩:=EC h1 h2
 refine⟨⟨oo x,by rw [List.length_map,iK],s1,s2⟩,Db h1 h2 h3,?_⟩
 have h5:=Cr hlx
 have h6:=kg (gM x)
 unfold dC
 omega
theorem xh {T:List GN}:∀ {l:List Item} {i:Nat},AtL T i l→∀ o∈offs i l,o<T.length
 | [],_,_,o,ho=>by cases ho
 | x :: r,i,h,o,ho=>by
  simp only [offs,List.mem_cons] at ho
  rcases ho with rfl | ho
  ·exact h.1.lt
  ·exact xh h.2 o ho
mutual
theorem at_range {T:List GN}:∀ {x:Item} {i:Nat},AtI T i x→∀ j g,i≤j→j<i+sizeI x→T[j]? = some g→∀ k∈g.kids,0≤k∧k<(T.length:Int)
 | .mk k t n a ks,i,h,j,g,h1,h2,hg=>by
  obtain ⟨⟨b,hb⟩,hl⟩:=h
  by_cases hj:j=i
  ·subst hj
   rw [hb] at hg; injection hg with hg; subst hg
   intro q hq
   obtain ⟨o,ho,rfl⟩:=List.mem_map.1 hq
   have:=xh hl o ho
   omega
  ·exact uR hl j g (by omega) (by simp only [sizeI] at h2; omega) hg
theorem uR {T:List GN}:∀ {l:List Item} {i:Nat},AtL T i l→∀ j g,i≤j→j<i+sizeL l→T[j]? = some g→∀ k∈g.kids,0≤k∧k<(T.length:Int)
 | [],i,_,j,g,h1,h2,_=>by simp only [sizeL] at h2; omega
 | x :: r,i,h,j,g,h1,h2,hg=>by
  by_cases hj:j<i+sizeI x
  ·exact at_range h.1 j g h1 hj hg
  ·exact uR h.2 j g (by omega) (by simp only [sizeL] at h2; omega) hg
end
theorem yR {G:List GN} {x:Item} (h:AtI G 0 x) (hl:G.length=sizeI x):∀ g∈G,∀ k∈g.kids,0≤k∧k<(G.length:Int):=by
 intro g hg
 obtain ⟨j,hj⟩:=List.mem_iff_getElem?.1 hg
 exact at_range h j g (Nat.zero_le _) (by have:=(List.getElem?_eq_some_iff.1 hj).1; omega) hj
theorem uM {G:List GN} {f:Nat} (hf:G.length≤f):behindG G f 0=some G.length↔∃ x,AtI G 0 x∧G.length=sizeI x:=by
 constructor
 ·intro h
  obtain ⟨x,h1,h2⟩:=ni f 0 _ h
  exact⟨x,h1,by omega⟩
 ·rintro ⟨x,h1,h2⟩
  rw [qA f 0 x h1 (by omega)]
  congr 1; omega
theorem CX {G:List GN} {x:Item} (h:AtI G 0 x) (hl:G.length=sizeI x) {g:GN} (hg:G[0]? = some g) (hk:g.kind=1) (ho:∀ g∈G,okG G g=true):df G x:=by
 refine⟨h,hl,(pE h).2 (fun j g _ _ hj=>ho g (List.mem_of_getElem? hj)),?_⟩
 obtain ⟨k,t,n,a,ks⟩:=x
 obtain ⟨⟨b,hb⟩,_⟩:=h
 rw [hb] at hg; injection hg with hg; subst hg
 exact hk
theorem df.all {G:List GN} {x:Item} (h:df G x):(∃ g,G[0]? = some g∧g.kind=1)∧behindG G G.length 0=some G.length∧∀ g∈G,okG G g=true:=by
 refine⟨?_,(uM (Nat.le_refl _)).2 ⟨x,h.at0,h.len⟩,fun g hg=>?_⟩
 ·obtain ⟨h1,h2,h3,h4⟩:=h
  obtain ⟨k,t,n,a,ks⟩:=x
  obtain ⟨⟨b,hb⟩,_⟩:=h1
  exact⟨_,hb,h4⟩
 ·obtain ⟨j,hj⟩:=List.mem_iff_getElem?.1 hg
  exact (pE h.at0).1 h.sh j g (Nat.zero_le _) (by have:=(List.getElem?_eq_some_iff.1 hj).1; have:=h.len; omega) hj
end Go.Proofs.YtkkeocnnecegbaaGreatDoor
namespace Go.Proofs.YtkkeocnnecegbaaGreatDoor
open Go.RowKit
theorem Ew {l:List UInt8} {x:Item} (h:bD l=.ok x):∃ ts,fZ l=.ok ts∧progS ts=.ok x:=by
 unfold bD at h
 cases hl:fZ l with
 | error e=>rw [hl] at h; cases h
 | ok bs=>rw [hl] at h; exact⟨bs,rfl,h⟩
theorem Fx {l:List UInt8} {ts:List Tok} {x:Item} (h1:fZ l=.ok ts) (h2:progS ts=.ok x):bD l=.ok x:=by
 unfold bD; rw [h1]; exact h2
theorem vI {l:List UInt8} {x:Item} (h:bD l=.ok x):df ((flat 0 x).map gn) x∧mG x∧wt (gM x)≤2*l.length+1∧(dC x).length≤2*l.length+1∧∃ y,bD (dC x)=.ok y∧erase y=erase x:=by
 obtain ⟨ts,h1,h2⟩:=Ew h
 obtain ⟨h3,h4,h5⟩:=wH h1 h2
 have hlx:lx l 0=.ok ts:=by rw [← je]; exact h1
 obtain ⟨_,_,_,h6⟩:=oG (jB h1) (xU hlx) h2
 refine⟨h3,h4,Nat.le_trans h6 (Cr hlx),h5,?_⟩
 obtain ⟨bs,y,g1,g2,g3⟩:=h4
 exact⟨y,Fx g1 g2,g3⟩
end Go.Proofs.YtkkeocnnecegbaaGreatDoor
namespace Go.Proofs.YtkkeocnnecegbaaGreatDoor
open Go.RowKit
theorem Gv {m:Nat}:∀ (N:Nat) (x:Item),sizeI x≤N→WX x→∀ of,wt (outX of x)≤m→mD m x:=by
 intro N
 induction N with
 | zero=>intro x h; have:=aW x; omega
 | succ N ih =>
  intro x hN hw of h
  rcases fV hw with ⟨n,a,rfl⟩ | ⟨t,a,rfl⟩ | ⟨t,a,y,rfl,hy⟩ | ⟨n,a,y,rfl,hn,hy⟩ | ⟨n,a,y,z,rfl,hn1,hn2,hy,hz⟩
  ·exact⟨Nat.zero_le _,trivial⟩
  ·simp only [outX,dE,bE] at h
   exact⟨by omega,trivial⟩
  ·simp only [sizeI,sizeL] at hN
   simp only [outX,dE,aT,az,bE] at h
   exact⟨by omega,ih y (by omega) hy 1 (by omega),trivial⟩
  ·simp only [sizeI,sizeL] at hN
   simp only [outX,aT] at h
   exact⟨Nat.zero_le _,ih y (by omega) hy 4 (by omega),trivial⟩
  ·simp only [sizeI,sizeL] at hN
   have h1:wt (outX (aA ((n:Int)).toNat) y)≤m∧wt (outX (aA ((n:Int)).toNat+1) z)≤m:=by
    simp only [outX] at h
    split at h
    ·simp only [aT,az,bE] at h; omega
    ·simp only [aT,az] at h; omega
   exact⟨Nat.zero_le _,ih y (by omega) hy _ h1.1,ih z (by omega) hz _ h1.2,trivial⟩
theorem jd {m:Nat} {x:Item} (h:WX x) {of:Nat} (hm:wt (outX of x)≤m):mD m x:=Gv _ x (Nat.le_refl _) h of hm
theorem xx {m:Nat}:∀ (l:List Item) (b:Bool),WXs l→wt (outA b l)≤m→j5 m l
 | [],_,_,_=>trivial
 | x :: r,b,h,hm=>by
  have h1:wt (outX 1 x)≤m∧wt (outA false r)≤m:=by
   simp only [outA,az] at hm
   omega
  exact⟨jd h.1 h1.1,xx r false h.2 h1.2⟩
theorem vD {m:Nat}:∀ (l:List Item) (b:Bool),(∀ x∈l,WN 4 x)→wt (di b l)≤m→j5 m l
 | [],_,_,_=>trivial
 | x :: r,b,h,hm=>by
  have h1:(dD x).length≤m∧wt (di false r)≤m:=by
   simp only [di,az,dE] at hm
   omega
  refine⟨?_,vD r false (fun z hz=>h z (List.mem_cons_of_mem _ hz)) h1.2⟩
  obtain ⟨k,t,n,a,ks⟩:=x
  have:=h _ (List.mem_cons_self ..)
  simp only [WN] at this
  obtain ⟨_,_,rfl⟩:=this
  exact⟨h1.1,trivial⟩
theorem GV {m:Nat}:∀ (N:Nat) (b:Bool) (x:Item),sizeI x≤N→WS b x→wt (outS x)≤m→mD m x:=by
 intro N
 induction N with
 | zero=>intro b x h; have:=aW x; omega
 | succ N ih =>
  intro b x hN hw h
  cases hw with
  | block a l hl =>
   simp only [sizeI] at hN
   have key:∀ l:List Item,(∀ x∈l,WS true x)→sizeL l≤N→wt (dI l)≤m→j5 m l:=by
    intro l
    induction l with
    | nil=>intro _ _ _; trivial
    | cons y r ihl =>
     intro h1 h2 h3
     simp only [sizeL] at h2
     simp only [dI,az] at h3
     exact⟨ih true y (by omega) (h1 y (List.mem_cons_self ..)) (by omega),ihl (fun z hz=>h1 z (List.mem_cons_of_mem _ hz)) (by omega) (by omega)⟩
   simp only [outS,aT,az,bE] at h
   exact⟨Nat.zero_le _,key l hl (by omega) (by omega)⟩
  | declare t a x hx =>
   simp only [outS,aT,cK,dE,az,bE] at h
   exact⟨by omega,jd hx (of:=1) (by omega),trivial⟩
  | assign t a x hx =>
   simp only [outS,aT,dE,az,bE] at h
   exact⟨by omega,jd hx (of:=1) (by omega),trivial⟩
  | store t a x y hx hy =>
   simp only [outS,aT,dE,az,bE] at h
   exact⟨by omega,jd hx (of:=1) (by omega),jd hy (of:=1) (by omega),trivial⟩
  | if1 a x b hx hb =>
   simp only [sizeI,sizeL] at hN
   simp only [outS,cK,az] at h
   exact⟨Nat.zero_le _,jd hx (of:=1) (by omega),ih _ b (by omega) hb (by omega),trivial⟩
  | if2 a x b c hx hb hc =>
   simp only [sizeI,sizeL] at hN
   simp only [outS,cK,az] at h
   exact⟨Nat.zero_le _,jd hx (of:=1) (by omega),ih _ b (by omega) hb (by omega),ih _ c (by omega) hc (by omega),trivial⟩
  | for1 a x b hx hb =>
   simp only [sizeI,sizeL] at hN
   simp only [outS,cK,az] at h
   exact⟨Nat.zero_le _,jd hx (of:=1) (by omega),ih _ b (by omega) hb (by omega),trivial⟩
  | ret k a x hk hx =>
   have h1:wt (outX 1 x)≤m:=by
    rcases hk with rfl | rfl | rfl <;> simp only [outS,aT,cK,az,bE] at h <;> omega
   exact⟨Nat.zero_le _,jd hx h1,trivial⟩
  | read t a =>
   simp only [outS,aT,cK,dE,bE] at h
   exact⟨by omega,trivial⟩
  | call t a u b l hl =>
   simp only [outS,dD,aT,cK,dE,az,bE] at h
   exact⟨by omega,⟨by omega,trivial⟩,xx l true hl (by omega)⟩
theorem Hm {m:Nat} {x:Item} (h:WD x) (hm:wt (outD x)≤m):mD m x:=by
 cases h with
 | array t n a =>
  simp only [outD,cK,dE,aT,wh,bE] at hm
  exact⟨by omega,trivial⟩
 | func t a l b hl hb =>
  simp only [outD,cK,dE,aT,az,List.dropLast_concat,List.getLast?_concat] at hm
  have h1:=vD l true hl (m:=m) (by omega)
  have h2:=GV _ false b (Nat.le_refl _) hb (m:=m) (by omega)
  refine⟨by omega,GH (fun x hx=>?_)⟩
  rcases List.mem_append.1 hx with hx | hx
  ·exact Eu h1 x hx
  ·rw [List.mem_singleton] at hx; subst hx; exact h2
theorem xw {m:Nat} {x:Item} (h:WP x) (hm:wt (gM x)≤m):mD m x:=by
 obtain ⟨k,t,n,a,l⟩:=x
 obtain ⟨_,rfl,_,hl⟩:=h
 have key:∀ l:List Item,(∀ x∈l,WD x)→wt (cZ l)≤m→j5 m l:=by
  intro l
  induction l with
  | nil=>intro _ _; trivial
  | cons y r ih =>
   intro h hm
   simp only [cZ,az] at hm
   exact⟨Hm (h y (List.mem_cons_self ..)) (by omega),ih (fun z hz=>h z (List.mem_cons_of_mem _ hz)) (by omega)⟩
 exact⟨Nat.zero_le _,key l hl hm⟩
mutual
theorem wD {m:Nat}:∀ (x:Item) (o:Nat),mD m x→∀ g∈flat o x,g.text.length≤m
 | .mk k t n a ks,o,h,g,hg=>by
  simp only [flat,List.mem_cons] at hg
  rcases hg with rfl | hg
  ·exact h.1
  ·exact vB ks _ h.2 g hg
theorem vB {m:Nat}:∀ (l:List Item) (o:Nat),j5 m l→∀ g∈eQ o l,g.text.length≤m
 | [],_,_,g,hg=>by simp [eQ] at hg
 | x :: r,o,h,g,hg=>by
  simp only [eQ,List.mem_append] at hg
  rcases hg with hg | hg
  ·exact wD x o h.1 g hg
  ·exact vB r _ h.2 g hg
end
end Go.Proofs.YtkkeocnnecegbaaGreatDoor
