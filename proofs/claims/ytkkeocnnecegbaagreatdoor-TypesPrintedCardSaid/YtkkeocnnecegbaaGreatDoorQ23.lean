/- Joint text: WSpec, WRes, WRes2, TU, TF. By an AI agent. -/
import Derived.Test.YtkkeocnnecegbaaGreatDoorQ02
import Derived.Test.YtkkeocnnecegbaaGreatDoorQ21
set_option linter.all false
set_option maxRecDepth 100000
set_option maxHeartbeats 64000000
namespace Go.Proofs.YtkkeocnnecegbaaGreatDoor
section
variable (base:Nat) (of:List Int)
def ofW (i:Nat):Int:=(of[i]?).getD 0
end
end Go.Proofs.YtkkeocnnecegbaaGreatDoor
namespace Go.Proofs.YtkkeocnnecegbaaGreatDoor
def wX (ps:List Int) (v:Int):Int:=(ps[v.toNat]?).getD 0
mutual
def ResI (own na:Nat) (ps of:List Int):Nat→Item→Prop
 | i,.mk k _ _ _ ks=>((k=4∨k=6∨k=7∨k=14∨k=15∨k=18)→0≤ofW of i∧ofW of i<own)∧((k=8∨k=19)→0≤ofW of i∧ofW of i<na)∧(k=16→0≤ofW of i∧ofW of i<ps.length)∧(k=15→∀ c r,ks=c :: r→wX ps (ofW of (i+1))=r.length)∧(k≠4→ResL own na ps of (i+1) ks)
def ResL (own na:Nat) (ps of:List Int):Nat→List Item→Prop
 | _,[]=>True
 | i,x :: r=>ResI own na ps of i x∧ResL own na ps of (i+sizeI x) r
end
theorem oQ {of of':List Int} {i:Nat} (h:of'[i]? = of[i]?):ofW of' i=ofW of i:=by unfold ofW; rw [h]
mutual
theorem ResI.next {own own' na:Nat} {ps of of':List Int} (ho:own≤own'):∀ {x:Item} {i:Nat},ResI own na ps of i x→(∀ k,i≤k→k<i+sizeI x→of'[k]? = of[k]?)→ResI own' na ps of' i x
 | .mk k t n p ks,i,h,e=>by
  have e0:ofW of' i=ofW of i:=oQ (e i (Nat.le_refl _) (by simp [sizeI]; omega))
  unfold ResI at h ⊢
  obtain ⟨h1,h2,h3,h4,h5⟩:=h
  refine⟨fun hk=>?_,fun hk=>?_,fun hk=>?_,fun hk c r hc=>?_,fun hk=>ResL.next ho (h5 hk) (fun k h1 h2=>e k (by omega) (by simp only [sizeI]; omega))⟩
  ·rw [e0]; have:=h1 hk; omega
  ·rw [e0]; exact h2 hk
  ·rw [e0]; exact h3 hk
  ·have hs:=aW c
   rw [oQ (e (i+1) (by omega) (by rw [hc]; simp only [sizeI,sizeL]; omega))]
   exact h4 hk c r hc
theorem ResL.next {own own' na:Nat} {ps of of':List Int} (ho:own≤own'):∀ {l:List Item} {i:Nat},ResL own na ps of i l→(∀ k,i≤k→k<i+sizeL l→of'[k]? = of[k]?)→ResL own' na ps of' i l
 | [],i,h,e=>by unfold ResL; trivial
 | x :: r,i,h,e=>by
  unfold ResL at h ⊢
  exact⟨ResI.next ho h.1 (fun k h1 h2=>e k h1 (by simp only [sizeL]; omega)),ResL.next ho h.2 (fun k h1 h2=>e k (by omega) (by simp only [sizeL]; omega))⟩
end
def ib (s:TS):Prop:=∀ e∈s.seen,e.2<s.vars
structure gT (s s':TS) (i j:Nat):Prop where
 ak:s'.ak=s.ak
 fns:s'.fns=s.fns
 vars:s.vars≤s'.vars
 len:s'.of.length=s.of.length
 of:∀ k,k<i∨j≤k→s'.of[k]? = s.of[k]?
theorem gT.refl (s:TS) (i j:Nat):gT s s i j:=⟨rfl,rfl,Nat.le_refl _,rfl,fun _ _=>rfl⟩
theorem gT.trans {a b c:TS} {i j u v m n:Nat} (h:gT a b i j) (k:gT b c u v) (h1:m≤i) (h2:j≤n) (h3:m≤u) (h4:v≤n):gT a c m n :=
 ⟨k.ak.trans h.ak,k.fns.trans h.fns,Nat.le_trans h.vars k.vars,k.len.trans h.len,fun q hq=>(k.of q (by omega)).trans (h.of q (by omega))⟩
theorem Am {s:TS} (h:ib s) {x:List UInt8} (hx:0≤s.find x):s.find x<s.vars:=by
 unfold TS.find at hx ⊢
 cases hf:s.seen.findIdx? (fun a=>a.1 == x) with
 | none=>rw [hf] at hx; simp at hx
 | some k =>
  obtain ⟨hk,_⟩:=List.findIdx?_eq_some_iff_getElem.1 hf
  simp only [List.getElem?_eq_getElem hk,Option.map_some,Option.getD_some]
  have:=h _ (List.getElem_mem hk)
  omega
theorem p8 {α:Type} (nm:α→List UInt8) (x:List UInt8) (l:List α) (h:0≤dm nm x l):dm nm x l<l.length:=by
 unfold dm at h ⊢
 cases hf:l.findIdx? (fun a=>nm a == x) with
 | none=>rw [hf] at h; simp at h
 | some k =>
  obtain ⟨hk,_⟩:=List.findIdx?_eq_some_iff_getElem.1 hf
  simp only []
  omega
theorem yj {i:Nat} {x:List UInt8} {s s':TS} (h:declT i x s=.ok s') (hi:i<s.of.length) (hs:ib s):gT s s' i (i+1)∧ib s'∧0≤ofW s'.of i∧ofW s'.of i<s'.vars:=by
 unfold declT at h
 split at h
 ·cases h
 ·injection h with h
  subst h
  refine⟨⟨rfl,rfl,Nat.le_succ _,by simp [TS.see],fun k hk=>by simp only [TS.see]; rw [List.getElem?_set_ne (by omega)]⟩,?_,?_,?_⟩
  ·intro e he
   rcases List.mem_append.1 he with he | he
   ·have:=hs e he; show e.2<s.vars+1; omega
   ·simp only [List.mem_singleton] at he; subst he; show s.vars<s.vars+1; omega
  ·simp [ofW,TS.see,hi]
  ·simp [ofW,TS.see,hi]; omega
theorem tX {i:Nat} {v:Int} {s s':TS} (h:eD i v s=.ok s') (hi:i<s.of.length) (hs:ib s):gT s s' i (i+1)∧ib s'∧s'.vars=s.vars∧0≤v∧ofW s'.of i=v:=by
 unfold eD at h
 split at h
 ·cases h
 ·injection h with h
  subst h
  exact⟨⟨rfl,rfl,Nat.le_refl _,by simp [TS.put],fun k hk=>by simp only [TS.put]; rw [List.getElem?_set_ne (by omega)]⟩,hs,rfl,by omega,by simp [ofW,TS.put,hi]⟩
theorem andThen_ok {r:Except fK TS} {f:TS→Except fK TS} {s:TS} (h:andThenT r f=.ok s):∃ s1,r=.ok s1∧f s1=.ok s:=by
 unfold andThenT at h
 split at h
 ·cases h
 ·exact⟨_,rfl,h⟩
theorem Jr {k i:Nat} {t:List UInt8} {s s':TS} (h:CB k i t s=.ok s') (hi:i<s.of.length) (hs:ib s) :
  gT s s' i (i+1)∧ib s'∧((k=7∨k=14∨k=18)→0≤ofW s'.of i∧ofW s'.of i<s'.vars)∧((k=8∨k=19)→0≤ofW s'.of i∧ofW s'.of i<s'.ak.length)∧(k=16→0≤ofW s'.of i∧ofW s'.of i<s'.fns.length):=by
 unfold CB at h
 split at h
 ·rename_i hk
  obtain ⟨h1,h2,h3,h4,h5⟩:=tX h hi hs
  exact⟨h1,h2,fun _=>by rw [h5,h3]; exact⟨h4,Am hs h4⟩,fun _=>by omega,fun _=>by omega⟩
 ·rename_i hk
  split at h
  ·rename_i hk2
   obtain ⟨h1,h2,h3,h4,h5⟩:=tX h hi hs
   exact⟨h1,h2,fun _=>by omega,fun _=>by rw [h5,h1.ak]; exact⟨h4,p8 _ _ _ h4⟩,fun _=>by omega⟩
  ·rename_i hk2
   split at h
   ·obtain ⟨h1,h2,h3,h4,h5⟩:=tX h hi hs
    exact⟨h1,h2,fun _=>by omega,fun _=>by omega,fun _=>by rw [h5,h1.fns]; exact⟨h4,p8 _ _ _ h4⟩⟩
   ·injection h with h
    subst h
    exact⟨gT.refl _ _ _,hs,fun _=>by omega,fun _=>by omega,fun _=>by omega⟩
def eT (s:TS):List Int:=s.fns.map (·.params)
theorem jT {s s':TS} {i j:Nat} (h:gT s s' i j):eT s'=eT s:=by unfold eT; rw [h.fns]
def sU (s s':TS) (i j:Nat) (P:Prop):Prop:=gT s s' i j∧ib s'∧P
mutual
theorem qV:∀ {x:Item} {i:Nat} {s s':TS},nodeT i x s=.ok s'→i+sizeI x≤s.of.length→ib s→sU s s' i (i+sizeI x) (ResI s'.vars s'.ak.length (eT s') s'.of i x)
 | .mk k t n p ks,i,s,s',h,hi,hs=>by
  have hsz:sizeI (.mk k t n p ks)=1+sizeL ks:=rfl
  rw [hsz] at hi ⊢
  unfold nodeT at h
  by_cases h4:k=4
  ·subst h4
   rw [if_pos rfl] at h
   obtain ⟨k1,o1,r1,r2⟩:=yj h (by omega) hs
   refine⟨k1.trans (gT.refl _ i i) (Nat.le_refl _) (by omega) (Nat.le_refl _) (by omega),o1,?_⟩
   unfold ResI
   exact⟨fun _=>⟨r1,r2⟩,fun hk=>by omega,fun hk=>by omega,fun hk=>by omega,fun hk=>absurd rfl hk⟩
  rw [if_neg h4] at h
  by_cases h5:k=5
  ·subst h5
   rw [if_pos rfl] at h
   obtain ⟨s1,h1,h2⟩:=andThen_ok h
   obtain ⟨k1,o1,r1⟩:=kz h1 (by omega) hs
   injection h2 with h2
   subst h2
   refine⟨⟨k1.ak,k1.fns,k1.vars,k1.len,fun q hq=>k1.of q (by omega)⟩,fun e he=>o1 e (List.mem_of_mem_take he),?_⟩
   unfold ResI
   exact⟨fun hk=>by omega,fun hk=>by omega,fun hk=>by omega,fun hk=>by omega,fun _=>r1⟩
  rw [if_neg h5] at h
  by_cases h6:k=6
  ·subst h6
   rw [if_pos rfl] at h
   obtain ⟨s1,h1,h2⟩:=andThen_ok h
   obtain ⟨k1,o1,r1⟩:=kz h1 (by omega) hs
   obtain ⟨k2,o2,r2,r3⟩:=yj h2 (by rw [k1.len]; omega) o1
   refine⟨k1.trans k2 (by omega) (by omega) (Nat.le_refl _) (by omega),o2,?_⟩
   unfold ResI
   refine⟨fun _=>⟨r2,r3⟩,fun hk=>by omega,fun hk=>by omega,fun hk=>by omega,fun _=>?_⟩
   rw [k2.ak,jT k2]
   exact r1.next k2.vars (fun q hq1 hq2=>k2.of q (by omega))
  rw [if_neg h6] at h
  by_cases h15:k=15
  ·subst h15
   rw [if_pos rfl] at h
   split at h
   ·cases h
   ·rename_i hf
    obtain ⟨k2,o2,r2,r3⟩:=EH h (by omega) (by show _≤(s.of.set _ _).length; rw [List.length_set]; omega) hs
    have k1:gT s (s.put i (s.find t)) i (i+1):=⟨rfl,rfl,Nat.le_refl _,by simp [TS.put],fun k hk=>by simp only [TS.put]; rw [List.getElem?_set_ne (by omega)]⟩
    refine⟨k1.trans k2 (Nat.le_refl _) (by omega) (by omega) (by omega),o2,?_⟩
    have e:ofW s'.of i=s.find t:=by
     rw [oQ (k2.of i (by omega))]
     simp [ofW,TS.put,show i<s.of.length by omega]
    unfold ResI
    refine⟨fun _=>?_,fun hk=>by omega,fun hk=>by omega,fun _ c r hc=>?_,fun _=>r2⟩
    ·rw [e]
     have h1:=Am hs (show 0≤s.find t by omega)
     have h2:=k2.vars
     have h3:(s.put i (s.find t)).vars=s.vars:=rfl
     omega
    ·exact r3 c r hc
  rw [if_neg h15] at h
  obtain ⟨s1,h1,h2⟩:=andThen_ok h
  obtain ⟨k1,o1,r1,r2,r3⟩:=Jr h1 (by omega) hs
  obtain ⟨k2,o2,q2⟩:=kz h2 (by rw [k1.len]; omega) o1
  refine⟨k1.trans k2 (Nat.le_refl _) (by omega) (by omega) (by omega),o2,?_⟩
  have e:ofW s'.of i=ofW s1.of i:=oQ (k2.of i (by omega))
  have hv:=k2.vars
  unfold ResI
  refine⟨fun hk=>?_,fun hk=>?_,fun hk=>?_,fun hk=>by omega,fun _=>q2⟩
  ·rw [e]; have:=r1 (by omega); omega
  ·rw [e,k2.ak]; exact r2 hk
  ·rw [e,jT k2]; unfold eT; rw [List.length_map]; exact r3 hk
theorem kz:∀ {l:List Item} {i:Nat} {s s':TS},allT i l s=.ok s'→i+sizeL l≤s.of.length→ib s→sU s s' i (i+sizeL l) (ResL s'.vars s'.ak.length (eT s') s'.of i l)
 | [],i,s,s',h,hi,hs=>by
  unfold allT at h
  injection h with h
  subst h
  exact⟨gT.refl _ _ _,hs,by unfold ResL; trivial⟩
 | x :: r,i,s,s',h,hi,hs=>by
  simp only [sizeL] at hi ⊢
  unfold allT at h
  obtain ⟨s1,h1,h2⟩:=andThen_ok h
  obtain ⟨k1,o1,r1⟩:=qV h1 (by omega) hs
  obtain ⟨k2,o2,r2⟩:=kz h2 (by rw [k1.len]; omega) o1
  refine⟨k1.trans k2 (Nat.le_refl _) (by omega) (by omega) (by omega),o2,?_⟩
  unfold ResL
  refine⟨?_,r2⟩
  rw [k2.ak,jT k2]
  exact r1.next k2.vars (fun q hq1 hq2=>k2.of q (Or.inl hq2))
theorem EH:∀ {l:List Item} {i j:Nat} {s s':TS},callT i j l s=.ok s'→i<j→j+sizeL l≤s.of.length→ib s→sU s s' j (j+sizeL l) (ResL s'.vars s'.ak.length (eT s') s'.of j l∧∀ c r,l=c :: r→wX (eT s') (ofW s'.of j)=r.length)
 | [],i,j,s,s',h,hij,hi,hs=>by
  unfold callT at h
  injection h with h
  subst h
  exact⟨gT.refl _ _ _,hs,by unfold ResL; trivial,fun c r hc=>by cases hc⟩
 | c :: r,i,j,s,s',h,hij,hi,hs=>by
  simp only [sizeL] at hi ⊢
  unfold callT at h
  obtain ⟨s1,h1,h2⟩:=andThen_ok h
  obtain ⟨k1,o1,r1⟩:=qV h1 (by omega) hs
  split at h2
  ·cases h2
  ·rename_i hp
   obtain ⟨k2,o2,r2⟩:=kz h2 (by rw [k1.len]; omega) o1
   have hc:=aW c
   refine⟨k1.trans k2 (Nat.le_refl _) (by omega) (by omega) (by omega),o2,?_,?_⟩
   ·unfold ResL
    refine⟨?_,r2⟩
    rw [k2.ak,jT k2]
    exact r1.next k2.vars (fun q hq1 hq2=>k2.of q (Or.inl hq2))
   ·intro c' r' e
    injection e with e1 e2
    subst e1 e2
    rw [jT k2,oQ (k2.of j (by omega))]
    have:s1.iH j=(r.length:Int):=Classical.byContradiction hp
    rw [← this]
    simp [TS.iH,wX,eT,ofW]
end
end Go.Proofs.YtkkeocnnecegbaaGreatDoor
namespace Go.Proofs.YtkkeocnnecegbaaGreatDoor
def HeadR:Nat→List Item→List FnS→Prop
 | _,[],fs=>fs=[]
 | o,x :: r,fs=>if iG x=2 then HeadR (o+sizeI x) r fs else ∃ f fr,fs=f :: fr∧f.name=dD x∧f.params=((kidsT x).length:Int) - 1∧f.root=o∧HeadR (o+sizeI x) r fr
def tV (na:Nat) (ps of:List Int):Nat→List Item→List FnS→Prop
 | _,[],fs=>fs=[]
 | o,x :: r,fs=>if iG x=2 then tV na ps of (o+sizeI x) r fs else ∃ f fr,fs=f :: fr∧f.name=dD x∧f.params=((kidsT x).length:Int) - 1∧f.root=o∧(∀ l b,kidsT x=l ++ [b]→(∀ y∈l,iG y=4)→l.length≤f.vars)∧ResL f.vars na ps of (o+1) (kidsT x)∧tV na ps of (o+sizeI x) r fr
structure lM (s:TS):Prop where
 ak:s.ak.length≤16
 each:∀ a∈s.ak,1≤a.2∧a.2≤4096
 fns:s.fns.length≤64
 few:∀ f∈s.fns,f.params≤6∧f.name.length≤64
theorem EU {x:Item} {i:Nat} {s s':TS} (h:headT i x s=.ok s') (hk:lM s):lM s'∧s'.seen=s.seen∧s'.vars=s.vars∧s'.of.length=s.of.length∧(iG x=2→s'.fns=s.fns∧∃ n,s'.ak=s.ak ++ [(dD x,n)])∧(iG x≠2→s'.ak=s.ak∧s'.fns=s.fns ++ [⟨dD x,((kidsT x).length:Int) - 1,0,i⟩]):=by
 obtain ⟨k,t,n,p,ks⟩:=x
 unfold headT at h
 simp only [iG,kidsT,dD]
 dsimp only at h
 by_cases hk2:k=2
 ·rw [if_pos hk2] at h
  split at h
  ·cases h
  ·split at h
   ·cases h
   ·rename_i h1 h2
    injection h with h
    subst h
    refine⟨⟨by simp only [List.length_append,List.length_singleton]; omega,fun a ha=>?_,hk.fns,hk.few⟩,rfl,rfl,by simp,fun _=>⟨rfl,n,rfl⟩,fun h=>absurd hk2 h⟩
    rcases List.mem_append.1 ha with ha | ha
    ·exact hk.each a ha
    ·simp only [List.mem_singleton] at ha; subst ha; simp only []; omega
 ·rw [if_neg hk2] at h
  split at h
  ·cases h
  ·split at h
   ·cases h
   ·rename_i h1 h2
    injection h with h
    subst h
    refine⟨⟨hk.ak,hk.each,by simp only [List.length_append,List.length_singleton]; omega,fun a ha=>?_⟩,rfl,rfl,by simp,fun h=>absurd h hk2,fun _=>⟨rfl,rfl⟩⟩
    rcases List.mem_append.1 ha with ha | ha
    ·exact hk.few a ha
    ·simp only [List.mem_singleton] at ha; subst ha; simp only []; omega
theorem mP:∀ {l:List Item} {o:Nat} {s s':TS},cO o l s=.ok s'→lM s→lM s'∧s'.seen=s.seen∧s'.vars=s.vars∧s'.of.length=s.of.length∧∃ fs,s'.fns=s.fns ++ fs∧HeadR o l fs
 | [],o,s,s',h,hk=>by
  unfold cO at h
  injection h with h
  subst h
  exact⟨hk,rfl,rfl,rfl,[],(List.append_nil _).symm,rfl⟩
 | x :: r,o,s,s',h,hk=>by
  unfold cO at h
  obtain ⟨s1,h1,h2⟩:=andThen_ok h
  obtain ⟨k1,e1,e2,e3,e4⟩:=EU h1 hk
  obtain ⟨k2,d1,d2,d3,fs,d4,d5⟩:=mP h2 k1
  refine⟨k2,d1.trans e1,d2.trans e2,d3.trans e3,?_⟩
  unfold HeadR
  by_cases hx:iG x=2
  ·exact⟨fs,by rw [d4,(e4.1 hx).1],by rw [if_pos hx]; exact d5⟩
  ·exact⟨⟨dD x,((kidsT x).length:Int) - 1,0,o⟩ :: fs,by rw [d4,(e4.2 hx).2,List.append_assoc]; rfl,by rw [if_neg hx]; exact⟨_,_,rfl,rfl,rfl,rfl,d5⟩⟩
theorem yh (j v:Nat) (l:List FnS):(bM j v l).drop (j+1)=l.drop (j+1):=by
 apply List.ext_getElem?
 intro i
 unfold bM
 rw [List.getElem?_drop,List.getElem?_drop,List.getElem?_modify]
 simp [show ¬ j=j+1+i by omega]
theorem xH (j v:Nat) (l:List FnS):(bM j v l).take j=l.take j:=by
 apply List.ext_getElem?
 intro i
 unfold bM
 rw [List.getElem?_take,List.getElem?_take,List.getElem?_modify]
 split
 ·simp [show ¬ j=i by omega]
 ·rfl
theorem wW (j v:Nat) (l:List FnS):(bM j v l).map (·.params)=l.map (·.params):=by
 apply List.ext_getElem?
 intro i
 unfold bM
 rw [List.getElem?_map,List.getElem?_map,List.getElem?_modify]
 cases l[i]? with
 | none=>rfl
 | some f=>simp only [Option.map_some]; split <;> rfl
theorem CG (j v:Nat) (l:List FnS) (f:FnS) (h:l[j]? = some f):(bM j v l)[j]? = some { f with vars:=v }:=by
 unfold bM
 rw [List.getElem?_modify,h]
 simp
theorem uz:∀ {l:List Item} {r:List Item} {i:Nat} {s s':TS},(∀ y∈l,iG y=4)→allT i (l ++ r) s=.ok s'→i+sizeL (l ++ r)≤s.of.length→ib s→s.vars+l.length≤s'.vars
 | [],r,i,s,s',hl,h,hi,hs=>by
  have:=(kz h hi hs).1.vars
  simpa using this
 | x :: l,r,i,s,s',hl,h,hi,hs=>by
  rw [List.cons_append] at h hi
  simp only [sizeL] at hi
  unfold allT at h
  obtain ⟨s1,h1,h2⟩:=andThen_ok h
  obtain ⟨k1,o1,r1⟩:=qV h1 (by omega) hs
  have ih:=uz (fun y hy=>hl y (List.mem_cons_of_mem _ hy)) h2 (by rw [k1.len]; omega) o1
  have hx:=hl x (List.mem_cons_self ..)
  obtain ⟨k,t,n,p,ks⟩:=x
  simp only [iG] at hx
  subst hx
  unfold nodeT at h1
  rw [if_pos rfl] at h1
  unfold declT at h1
  split at h1
  ·cases h1
  ·injection h1 with h1
   rw [← h1] at ih
   have e:(s.see i t).vars=s.vars+1:=rfl
   simp only [List.length_cons]
   omega
structure GK (s s':TS) (j o:Nat) (l:List Item):Prop where
 ak:s'.ak=s.ak
 ui:eT s'=eT s
 names:s'.fns.map (·.name)=s.fns.map (·.name)
 len:s'.of.length=s.of.length
 of:∀ k,k<o∨o+sizeL l≤k→s'.of[k]? = s.of[k]?
 take:s'.fns.take j=s.fns.take j
 fns:tV s.ak.length (eT s) s'.of o l (s'.fns.drop j)
theorem ll:∀ {l:List Item} {j o:Nat} {s s':TS},eU j o l s=.ok s'→HeadR o l (s.fns.drop j)→o+sizeL l≤s.of.length→GK s s' j o l
 | [],j,o,s,s',h,hh,hi=>by
  unfold eU at h
  injection h with h
  subst h
  exact⟨rfl,rfl,rfl,rfl,fun _ _=>rfl,rfl,hh⟩
 | x :: r,j,o,s,s',h,hh,hi=>by
  simp only [sizeL] at hi
  have hx:sizeI x=1+sizeL (kidsT x):=by cases x; rfl
  unfold eU at h
  unfold HeadR at hh
  split at h
  ·rename_i hk
   rw [if_pos hk] at hh
   have ih:=ll h hh (by omega)
   refine⟨ih.ak,ih.ui,ih.names,ih.len,fun k hk=>ih.of k (by simp only [sizeL] at hk; omega),ih.take,?_⟩
   unfold tV
   rw [if_pos hk]
   exact ih.fns
  ·rename_i hk
   rw [if_neg hk] at hh
   obtain ⟨f,fr,e0,e1,e2,e3,e4⟩:=hh
   obtain ⟨s1,h1,h2⟩:=andThen_ok h
   have h0:ib { s with seen:=[],vars:=0 }:=fun e he=>by cases he
   obtain ⟨k1,o1,r1⟩:=kz h1 (by show _≤s.of.length; omega) h0
   have hfr:s.fns.drop (j+1)=fr:=by rw [← List.drop_drop,e0]; rfl
   have hj:s.fns[j]? = some f:=by
    have:(s.fns.drop j)[0]? = some f:=by rw [e0]; rfl
    rwa [List.getElem?_drop,Nat.add_zero] at this
   have ka:s1.ak=s.ak:=k1.ak
   have kf:s1.fns=s.fns:=k1.fns
   have kl:s1.of.length=s.of.length:=k1.len
   have ko:∀ k,k<o+1∨o+1+sizeL (kidsT x)≤k→s1.of[k]? = s.of[k]?:=k1.of
   have ih:=ll h2 (by show HeadR _ _ (List.drop (j+1) (bM j s1.vars s1.fns)); rw [kf,yh,hfr]; exact e4) (by show _≤s1.of.length; rw [kl]; omega)
   have hp:eT { s1 with fns:=bM j s1.vars s1.fns }=eT s:=by
    unfold eT
    show (bM j s1.vars s1.fns).map _=_
    rw [wW,kf]
   have hat:s'.fns[j]? = some { f with vars:=s1.vars }:=by
    have h3:(s'.fns.take (j+1))[j]? = ((bM j s1.vars s1.fns).take (j+1))[j]?:=by rw [ih.take]
    rw [List.getElem?_take,List.getElem?_take,if_pos (by omega),if_pos (by omega),CG j _ _ f (by rw [kf]; exact hj)] at h3
    exact h3
   refine⟨ih.ak.trans ka,ih.ui.trans hp,?_,ih.len.trans kl,fun k hk=>?_,?_,?_⟩
   ·rw [ih.names]
    show (bM j s1.vars s1.fns).map _=_
    rw [kf]
    apply List.ext_getElem?
    intro i
    unfold bM
    rw [List.getElem?_map,List.getElem?_map,List.getElem?_modify]
    cases s.fns[i]? with
    | none=>rfl
    | some f=>simp only [Option.map_some]; split <;> rfl
   ·simp only [sizeL] at hk
    rw [ih.of k (by omega)]
    exact ko k (by omega)
   ·have h3:(s'.fns.take (j+1)).take j=((bM j s1.vars s1.fns).take (j+1)).take j:=by rw [ih.take]
    rw [List.take_take,List.take_take,Nat.min_eq_left (Nat.le_succ j),xH,kf] at h3
    exact h3
   ·have hd:s'.fns.drop j={ f with vars:=s1.vars } :: s'.fns.drop (j+1):=by
     obtain ⟨hlt,hg⟩:=List.getElem?_eq_some_iff.1 hat
     rw [List.drop_eq_getElem_cons hlt,hg]
    rw [hd]
    unfold tV
    rw [if_neg hk]
    refine⟨_,_,rfl,e1,e2,e3,fun l b e hl=>?_,?_,?_⟩
    ·rw [e] at h1
     have:=uz hl h1 (by rw [← e]; show _≤s.of.length; omega) h0
     simpa using this
    ·have hps:eT s1=eT s:=by unfold eT; rw [kf]
     rw [← ka,← hps]
     refine r1.next (Nat.le_refl _) (fun q h5 h6=>ih.of q (Or.inl (by omega)))
    ·have h5:=ih.fns
     rw [hp] at h5
     rw [← ka]
     exact h5
structure GA (x:Item) (s:TS):Prop where
 heads:lM s
 len:s.of.length=sizeI x
 fns:tV s.ak.length (eT s) s.of 1 (kidsT x) s.fns
 main:0≤s.eB∧s.eB<s.fns.length∧wX (eT s) s.eB≤0
theorem qG {x:Item} {s:TS} (h:bu x=.ok s):GA x s:=by
 have hx:sizeI x=1+sizeL (kidsT x):=by cases x; rfl
 unfold bu at h
 obtain ⟨s1,h1,h2⟩:=andThen_ok h
 obtain ⟨k1,d1,d2,d3,fs,d4,d5⟩:=mP h1 ⟨by simp [eF],fun a ha=>by simp [eF] at ha,by simp [eF],fun a ha=>by simp [eF] at ha⟩
 have d4':s1.fns=fs:=by rw [d4]; rfl
 have hl:s1.of.length=sizeI x:=by rw [d3]; simp [eF]
 split at h2
 ·cases h2
 ·rename_i hm
  have b:=ll h2 (by rw [List.drop_zero,d4']; exact d5) (by rw [hl]; omega)
  have hlen:s.fns.length=s1.fns.length:=by have:=congrArg List.length b.ui; simpa [eT] using this
  have hmain:s.eB=s1.eB:=by
   have key:∀ (l m:List FnS),l.map (·.name)=m.map (·.name)→dm (·.name) oF l=dm (·.name) oF m:=fun l m e=>by
    unfold dm
    have:∀ (l:List FnS),l.findIdx? (fun a=>a.name == oF)=(l.map (·.name)).findIdx? (fun a=>a == oF):=fun l=>by rw [List.findIdx?_map]; rfl
    rw [this,this,e]
   exact key _ _ b.names
  refine⟨⟨by rw [b.ak]; exact k1.ak,by rw [b.ak]; exact k1.each,by rw [hlen]; exact k1.fns,fun f hf=>?_⟩,by rw [b.len]; exact hl,?_,?_⟩
  ·obtain ⟨j,hj,rfl⟩:=List.mem_iff_getElem.1 hf
   have hj1:j<s1.fns.length:=by omega
   have e1:s.fns[j].params=s1.fns[j].params:=by
    have:=congrArg (fun l=>l[j]?) b.ui
    simpa [eT,hj,hj1] using this
   have e2:s.fns[j].name=s1.fns[j].name:=by
    have:=congrArg (fun l=>l[j]?) b.names
    simpa [hj,hj1] using this
   rw [e1,e2]
   exact k1.few _ (List.getElem_mem hj1)
  ·have:=b.fns
   rw [List.drop_zero,← b.ak,← b.ui] at this
   exact this
  ·unfold TS.gF at hm
   simp only [Bool.or_eq_true,decide_eq_true_eq,not_or,Int.not_lt] at hm
   rw [hmain,b.ui,hlen]
   refine⟨hm.1,p8 _ _ _ hm.1,?_⟩
   have:=hm.2
   simpa [wX,eT] using this
end Go.Proofs.YtkkeocnnecegbaaGreatDoor
namespace Go.Proofs.YtkkeocnnecegbaaGreatDoor
open Go.RowKit
section
variable {w:World} {R OB B n c:Nat} {A:Option Addr} {mn:Int} {s:TS} {va vf vs:Value}
theorem StT.main (h:StT w R OB B n c A mn s va vf vs) (v:Int):StT (w.setCell ⟨R,3,none⟩ (.int .i64 v)) R OB B n c A v s va vf vs :=
 ⟨h.rd.put 3 (.int .i64 v),h.obl.far (Ne.symm h.lt.2.2) 3 _,h.ofn,bK h.ak h.lt.1 3 _,bK h.fns h.lt.1 3 _,bK h.seen h.lt.1 3 _,h.lt,by have:=h.top; simpa [World.setCell] using this⟩
theorem StT.Ko (h:StT w R OB B n c A mn s va vf vs):StT (w.setCell ⟨R,5,none⟩ (.slice none 0 0)) R OB B n c A mn { s with seen:=[] } va vf (.slice none 0 0) :=
 ⟨h.rd.put 5 (.slice none 0 0),h.obl.far (Ne.symm h.lt.2.2) 5 _,h.ofn,bK h.ak h.lt.1 5 _,bK h.fns h.lt.1 5 _,World.ownsRow_nil _ _ _ _,h.lt,by have:=h.top; simpa [World.setCell] using this⟩
theorem o7:∀ (l:List FnS) (j v:Nat),j<l.length→bV ((bM j v l).map fnV)=(bV (l.map fnV)).set (j*4+2) (.int .i64 v)
 | [],j,v,h=>by simp at h
 | f :: r,0,v,h=>by rfl
 | f :: r,j+1,v,h=>by
  have ih:=o7 r j v (by simpa using h)
  show (Value.string ⟨(fnV f).1.toArray⟩ :: (fnV f).2) ++ bV ((bM j v r).map fnV)=((Value.string ⟨(fnV f).1.toArray⟩ :: (fnV f).2) ++ bV (r.map fnV)).set _ _
  rw [ih,show (j+1)*4+2=(Value.string ⟨(fnV f).1.toArray⟩ :: (fnV f).2).length+(j*4+2) by simp [fnV]; omega,List.set_append_right _ _ (by omega),Nat.add_sub_cancel_left]
theorem zG (j v:Nat) (l:List FnS):(bM j v l).length=l.length:=List.length_modify ..
theorem StT.AP (h:StT w R OB B n c A mn s va vf vs) (j:Nat) (f:FnS) (hj:s.fns[j]? = some f):∃ g cap,vf=.slice (some ⟨g,0,none⟩) s.fns.length cap∧B≤g∧g<w.heap.size ∧
  w.cell? ⟨g,j*4,none⟩=some (.string ⟨f.name.toArray⟩)∧w.cell? ⟨g,j*4+1,none⟩=some (.int .i64 f.params)∧w.cell? ⟨g,j*4+2,none⟩=some (.int .i64 f.vars)∧w.cell? ⟨g,j*4+3,none⟩=some (.int .i64 f.root)∧w.frozen? ⟨g,j*4+2,none⟩=false ∧
  ∀ v:Nat,StT (w.setCell ⟨g,j*4+2,none⟩ (.int .i64 v)) R OB B n c A mn { s with fns:=bM j v s.fns } va vf vs∧FrY R OB B w (w.setCell ⟨g,j*4+2,none⟩ (.int .i64 v)):=by
 have hjl:=(List.getElem?_eq_some_iff.1 hj).1
 have ho:=h.fns
 obtain ⟨g,cap,rfl,hbg,hcap⟩:=ho.form (by omega)
 have hlt:=(ho.lt g rfl).2
 have at4:∀ k,k<4→w.cell? ⟨g,j*4+k,none⟩=(Value.string ⟨f.name.toArray⟩ :: (fnV f).2)[k]?:=fun k hk=>by
  show _=(Value.string ⟨(fnV f).1.toArray⟩ :: (fnV f).2)[k]?
  rw [← uu (sz:=4) (s.fns.map fnV) (fun a ha=>by obtain ⟨b,_,rfl⟩:=List.mem_map.1 ha; rfl) j (fnV f) (by rw [List.getElem?_map,hj]; rfl) k hk]
  exact ho.cellAt (j*4+k) (by omega)
 have hR:g≠R:=by have:=h.lt; omega
 have hO:g≠OB:=by have:=h.lt; omega
 refine⟨g,cap,rfl,hbg,hlt,at4 0 (by omega),at4 1 (by omega),at4 2 (by omega),at4 3 (by omega),?_,fun v=>?_⟩
 ·rcases ho.2 with ⟨hv,_⟩ | ⟨g2,cap2,cur,hv,_,hc,_⟩
  ·cases hv
  ·injection hv with e1 e2 e3
   injection e1 with e1
   injection e1 with e1
   subst e1
   exact Blk.free (show Blk w g 72 cur from hc) _
 ·have hother:∀ q,q≠g→(w.setCell ⟨g,j*4+2,none⟩ (.int .i64 v)).heap[q]? = w.heap[q]?:=fun q hq=>Below.heap_setCell _ _ _ _ hq
  have hset:(w.setCell ⟨g,j*4+2,none⟩ (.int .i64 v)).ownsRow B 72 4 (.slice (some ⟨g,0,none⟩) s.fns.length cap) (bM j v s.fns).length (bV ((bM j v s.fns).map fnV)):=by
   rw [zG,o7 _ _ _ hjl]
   refine⟨by rw [List.length_set]; exact ho.1,?_⟩
   rcases ho.2 with ⟨hv,_⟩ | ⟨g2,cap2,cur,hv,hb,hc,h1,h2,h3,h4⟩
   ·cases hv
   ·injection hv with e1 e2 e3
    injection e1 with e1
    injection e1 with e1
    subst e1 e3
    refine Or.inr ⟨g,cap,cur.setIfInBounds (j*4+2) (.int .i64 v),rfl,hb,(show Blk w g 72 cur from hc).put _ _,h1,h2,by simpa using h3,?_⟩
    rw [Array.toList_setIfInBounds,List.take_set,h4]
  have hne:∀ {e:Nat} {sz m:Nat} {u:Value} {xs:List Value},e≠72→w.ownsRow B e sz u m xs→(w.setCell ⟨g,j*4+2,none⟩ (.int .i64 v)).ownsRow B e sz u m xs:=fun he hu =>
   dG hu (fun q e=>hother q (fun e2=>by
    subst e2
    rcases own_ne hu ho he with h5 | h5
    ·rw [h5] at e; cases e
    ·exact h5 e))
  refine⟨⟨h.rd.far hR.symm _ _,h.obl.far hO.symm _ _,h.ofn,hne (by decide) h.ak,hset,hne (by decide) h.seen,h.lt,by have:=h.top; simpa [World.setCell] using this⟩,?_⟩
  refine⟨rfl,rfl,rfl,by simp [World.setCell],fun q h1 h2 h3 h4=>hother q (by omega),fun q t cs h1 h2 h3 h4=>?_⟩
  by_cases hq:q=g
  ·exfalso
   subst hq
   rcases ho.2 with ⟨hv,_⟩ | ⟨g2,cap2,cur,hv,hb,hc,_⟩
   ·cases hv
   ·injection hv with e1 e2 e3
    injection e1 with e1
    injection e1 with e1
    subst e1
    have h5:w.heap[_]? = some _:=h1
    rw [hc] at h5
    injection h5 with h5
    injection h5 with _ h5
    exact h4.2.1 h5.symm
  ·exact (hother q hq).trans h1
end
def fnsAt:Nat→List Item→List (Nat×Item)
 | _,[]=>[]
 | o,x :: r=>if iG x=2 then fnsAt (o+sizeI x) r else (o,x) :: fnsAt (o+sizeI x) r
def bodiesF:Nat→List (Nat×Item)→TS→Except fK TS
 | _,[],s=>.ok s
 | j,p :: r,s=>andThenT (allT (p.1+1) (kidsT p.2) { s with seen:=[],vars:=0 }) (fun s'=>bodiesF (j+1) r { s' with fns:=bM j s'.vars s'.fns })
theorem lC:∀ (l:List Item) (j o:Nat) (s:TS),eU j o l s=bodiesF j (fnsAt o l) s
 | [],j,o,s=>rfl
 | x :: r,j,o,s=>by
  unfold eU fnsAt
  by_cases hk:iG x=2
  ·rw [if_pos hk,if_pos hk,lC r]
  ·rw [if_neg hk,if_neg hk]
   unfold bodiesF
   exact gu (fun s=>lC r _ _ _)
theorem nu:∀ (a b:List (Nat×Item)) (j:Nat) (s:TS),bodiesF j (a ++ b) s=andThenT (bodiesF j a s) (bodiesF (j+a.length) b)
 | [],b,j,s=>by simp only [List.nil_append,bodiesF,andThenT,List.length_nil,Nat.add_zero]
 | p :: r,b,j,s=>by
  rw [List.cons_append]
  unfold bodiesF
  cases allT (p.1+1) (kidsT p.2) { s with seen:=[],vars:=0 } with
  | error e=>rfl
  | ok s1 =>
   show bodiesF _ (r ++ b) _=andThenT (bodiesF _ r _) _
   rw [nu r b]
   simp only [List.length_cons,show j+1+r.length=j+(r.length+1) by omega]
theorem zz (j:Nat) (p:Nat×Item) (s:TS):bodiesF j [p] s=andThenT (allT (p.1+1) (kidsT p.2) { s with seen:=[],vars:=0 }) (fun s'=>.ok { s' with fns:=bM j s'.vars s'.fns }):=rfl
theorem vH {α:Type} (l:List α) (j:Nat) (p:α) (h:l[j]? = some p):l.take (j+1)=l.take j ++ [p]:=by
 rw [List.take_add_one,h]; rfl
theorem wK {l:List (Nat×Item)} {j:Nat} {p:Nat×Item} {s s':TS} (hp:l[j]? = some p) (hs:bodiesF 0 (l.take j) s=.ok s'):bodiesF 0 (l.take (j+1)) s=bodiesF j [p] s':=by
 have hj:=(List.getElem?_eq_some_iff.1 hp).1
 rw [vH l j p hp,nu,hs,List.length_take,Nat.min_eq_left (by omega),Nat.zero_add]
 rfl
theorem yO {l:List (Nat×Item)} {j:Nat} {s:TS} {e:fK} (hs:bodiesF 0 (l.take j) s=.error e):bodiesF 0 l s=.error e:=by
 have:=nu (l.take j) (l.drop j) 0 s
 rw [List.take_append_drop,hs] at this
 exact this
theorem HeadR.at:∀ {l:List Item} {o:Nat} {fs:List FnS},HeadR o l fs→fs.length=(fnsAt o l).length∧∀ (j:Nat) (f:FnS),fs[j]? = some f→∃ x,(fnsAt o l)[j]? = some (f.root,x)∧x∈l
 | [],o,fs,h=>by
  unfold HeadR at h
  subst h
  exact⟨rfl,fun j f hj=>by simp at hj⟩
 | x :: r,o,fs,h=>by
  unfold HeadR at h
  unfold fnsAt
  by_cases hk:iG x=2
  ·rw [if_pos hk] at h ⊢
   obtain ⟨h1,h2⟩:=HeadR.at h
   exact⟨h1,fun j f hj=>by obtain ⟨y,q1,q2⟩:=h2 j f hj; exact⟨y,q1,List.mem_cons_of_mem _ q2⟩⟩
  ·rw [if_neg hk] at h ⊢
   obtain ⟨f,fr,rfl,e1,e2,e3,h⟩:=h
   obtain ⟨h1,h2⟩:=HeadR.at h
   refine⟨by simp [h1],fun j f' hj=>?_⟩
   cases j with
   | zero =>
    simp only [List.getElem?_cons_zero,Option.some.injEq] at hj
    subst hj
    exact⟨x,by simp [e3],List.mem_cons_self ..⟩
   | succ j =>
    obtain ⟨y,q1,q2⟩:=h2 j f' (by simpa using hj)
    exact⟨y,by simpa using q1,List.mem_cons_of_mem _ q2⟩
theorem qQ {G:List GN}:∀ {l:List Item} {o:Nat},AtL G o l→∀ p∈fnsAt o l,AtI G p.1 p.2
 | [],o,h,p,hp=>by simp [fnsAt] at hp
 | x :: r,o,h,p,hp=>by
  unfold fnsAt at hp
  obtain ⟨h1,h2⟩:=h
  split at hp
  ·exact qQ h2 p hp
  ·rcases List.mem_cons.1 hp with rfl | hp
   ·exact h1
   ·exact qQ h2 p hp
theorem oL:∀ (l m:List Item) (o:Nat) (s:TS),cO o (l ++ m) s=andThenT (cO o l s) (cO (o+sizeL l) m)
 | [],m,o,s=>by simp only [List.nil_append,cO,andThenT,sizeL,Nat.add_zero]
 | x :: r,m,o,s=>by
  rw [List.cons_append]
  unfold cO
  cases headT o x s with
  | error e=>rfl
  | ok s1 =>
   show cO _ (r ++ m) s1=andThenT (cO _ r s1) _
   rw [oL r m]
   simp only [sizeL,Nat.add_assoc]
theorem zM {ks:List Item} {j o:Nat} {x:Item} {s s':TS} (hx:ks[j]? = some x) (hs:cO o (ks.take j) s=.ok s'):cO o (ks.take (j+1)) s=headT (o+sizeL (ks.take j)) x s':=by
 rw [vH ks j x hx,oL,hs]
 show cO _ [x] s'=_
 unfold cO
 cases headT (o+sizeL (ks.take j)) x s' with
 | error e=>rfl
 | ok s1=>rfl
theorem Cz {ks:List Item} {j o:Nat} {s:TS} {e:fK} (hs:cO o (ks.take j) s=.error e):cO o ks s=.error e:=by
 have:=oL (ks.take j) (ks.drop j) o s
 rw [List.take_append_drop,hs] at this
 exact this
end Go.Proofs.YtkkeocnnecegbaaGreatDoor
namespace Go.Proofs.YtkkeocnnecegbaaGreatDoor
open Go.RowKit
theorem uk:∀ (a b:List Item) (o:Nat) (s:TS),allT o (a ++ b) s=andThenT (allT o a s) (allT (o+sizeL a) b)
 | [],b,o,s=>by simp only [List.nil_append,allT,andThenT,sizeL,Nat.add_zero]
 | x :: r,b,o,s=>by
  rw [List.cons_append]
  unfold allT
  cases nodeT o x s with
  | error e=>rfl
  | ok s1 =>
   show allT (o+sizeI x) (r ++ b) s1=andThenT (allT (o+sizeI x) r s1) _
   rw [uk r b]
   simp only [sizeL,Nat.add_assoc]
theorem IA (o:Nat) (x:Item) (s:TS):allT o [x] s=nodeT o x s:=by
 unfold allT
 cases nodeT o x s with
 | error e=>rfl
 | ok s1=>rfl
theorem F7 {ks:List Item} {j o:Nat} {s s':TS} (h:j<ks.length) (hs:allT o (ks.take j) s=.ok s'):allT o (ks.take (j+1)) s=nodeT (o+sizeL (ks.take j)) ks[j] s':=by
 rw [take_one ks j h,uk,hs]
 show allT _ [ks[j]] s'=_
 rw [IA]
theorem Ik {ks:List Item} {j o:Nat} {s:TS} {e:fK} (hs:allT o (ks.take j) s=.error e):allT o ks s=.error e:=by
 have:=uk (ks.take j) (ks.drop j) o s
 rw [List.take_append_drop,hs] at this
 exact this
def NC (w0:World) (n c:Nat) (A:Option Addr) (l:List PV) (x:Item):Prop :=
 ∀ (R OB B:Nat) (mn:Int) (va vf vs:Value) (s:TS) (i:Nat) (w:World),AtI (gns l) i x→TW w0 w R OB B→StT w R OB B n c A mn s va vf vs→s.vars+sizeI x≤900000→s.seen.length+sizeI x≤900000→s.ak.length≤900000→s.fns.length≤900000 →
  Calls Tryz.prog 164 #[.pointer (some ⟨R,0,none⟩),.int .i64 i] w (fq R OB B n c A l mn va vf s (sizeI x) w (nodeT i x s))
theorem fB (w0:World) (n c:Nat) (A:Option Addr) (l:List PV) (ks:List Item) (hk:∀ y∈ks,NC w0 n c A l y) (R OB B:Nat) (mn:Int) (va vf vs:Value) (s:TS) (o ck:Nat) (Ak:Option Addr) (w:World) (hat:AtL (gns l) o ks) (hin:gU w0 Ak ((offs o ks).map (fun k:Nat=>(k:Int)))) (hW:TW w0 w R OB B) (h:StT w R OB B n c A mn s va vf vs) (hv:s.vars+sizeL ks≤900000) (hsl:s.seen.length+sizeL ks≤900000) (hal:s.ak.length≤900000) (hfl:s.fns.length≤900000) :
  Calls Tryz.prog 115 #[.pointer (some ⟨R,0,none⟩),.slice Ak ks.length ck] w (fq R OB B n c A l mn va vf s (sizeL ks) w (allT o ks s)):=by
 have HK:=Lib.hid hk; have HAT:=Lib.hid hat; have HIN:=Lib.hid hin; have HW:=Lib.hid hW; have HS:=Lib.hid h
 obtain ⟨m,hm⟩:∃ m,m=ks.length:=⟨_,rfl⟩
 have HM:=Lib.hid hm
 have hml:=jZ ks
 rw [← hm] at hml ⊢
 clear hk hat hin hW h hm
 go_enter Tryz.func115,Tryz.ntmps115
 go_wp2_with fail
 go_loopg [10] m (fun gk v wr=>∃ (j:Nat) (s':TS) (vs':Value),j≤m∧m - j≤gk∧v=.int .i64 j∧Hid (allT o (ks.take j) s=.ok s')∧Hid (StT wr R OB B n c A mn s' va vf vs')∧Hid (FrY R OB B w wr)∧Hid (s'.ak=s.ak∧s'.fns=s.fns∧(∃ more,s'.seen=s.seen ++ more)∧s'.vars≤s.vars+sizeL (ks.take j)∧s'.seen.length≤s.seen.length+sizeL (ks.take j)))
 case atStart=>exact⟨0,s,vs,Nat.zero_le _,Nat.le_refl _,rfl,Lib.hid rfl,HS,Lib.hid (FrY.refl _ _ _ _),Lib.hid ⟨rfl,rfl,⟨[],by simp⟩,Nat.le_add_right _ _,Nat.le_add_right _ _⟩⟩
 case round =>
  obtain ⟨j,s',vs',hj,hgk,rfl,HALL,HST,HF,HB⟩:=hrel
  by_cases hlt:j<m
  case neg =>
   have hjm:j=m:=by omega
   subst hjm
   have hall:=HALL.out
   have hbb:=HB.out
   rw [List.take_of_length_le (Nat.le_of_eq HM.out.symm)] at hall hbb
   have HALL:=Lib.hid hall; have HB:=Lib.hid hbb
   clear hall hbb
   go_wp2_with fail
   go_ret
   obtain ⟨b1,b2,b3,b4,b5⟩:=HB.out
   exact⟨HF.out,s',vs',.nilIface,HST.out,b1,b2,b3,b4,b5,rfl,by rw [HALL.out]; exact⟨rfl,rfl⟩⟩
  case pos =>
   have hjk:j<ks.length:=by rw [← HM.out]; exact hlt
   have hst:=oh ks j hjk
   have hji:(j:Int)<(m:Int):=by omega
   have hj0:(0:Int)≤(j:Int):=by omega
   have HW1:=Lib.hid (HW.out.next HF.out)
   have hof:((offs o ks).map (fun k:Nat=>(k:Int)))[j]? = some ((o+sizeL (ks.take j):Nat):Int):=by rw [List.getElem?_map,jv ks o j hjk]; rfl
   rcases HIN.out.below HW1.out.below with h0 | ⟨b4,o4,rfl,h4⟩
   ·exfalso; rw [h0] at hof; simp at hof
   have k4:=h4 j _ hof
   have l4:=aa k4
   obtain ⟨b1,b2,⟨mo,b3⟩,b4',b5⟩:=HB.out
   have HC:=Lib.hid (HK.out ks[j] (List.getElem_mem hjk) R OB B mn va vf vs' s' (o+sizeL (ks.take j)) wr (jQ HAT.out j hjk) HW1.out HST.out (by omega) (by omega) (by rw [b1]; exact hal) (by rw [b2]; exact hfl))
   have HJ:=Lib.hid hjk
   obtain ⟨oj,hoj⟩:∃ q,q=o+sizeL (ks.take j):=⟨_,rfl⟩
   have HT1:=Lib.hid (F7 hjk HALL.out)
   rw [← hoj] at HC k4 HT1
   have HB1:=Lib.hid b1; have HB2:=Lib.hid b2; have HB3:=Lib.hid b3
   clear h4 hof b1 b2 b3 hoj
   go_wp2_with fail
   refine HC.out.mono ?_
   rintro e w4 ⟨hf,s2,vs2,u,hS2,ha2,hfn2,⟨mo2,hm2⟩,hv2,hl2,rfl,hres⟩
   have HST2:=Lib.hid hS2
   have HF2:=Lib.hid (HF.out.trans hf)
   have HB':Hid (s2.ak=s.ak∧s2.fns=s.fns∧(∃ more,s2.seen=s.seen ++ more)∧s2.vars≤s.vars+sizeL (ks.take (j+1))∧s2.seen.length≤s.seen.length+sizeL (ks.take (j+1))):=Lib.hid (by
    have e1:sizeL (ks.take (j+1))=sizeL (ks.take j)+sizeI (ks[j]'HJ.out):=by rw [take_one ks j HJ.out,iY]; simp [sizeL]
    exact⟨ha2.trans HB1.out,hfn2.trans HB2.out,⟨mo ++ mo2,by rw [hm2,HB3.out,List.append_assoc]⟩,by omega,by omega⟩)
   have HST2:=Lib.hid hS2
   clear hf hS2 ha2 hfn2 hm2 HC
   cases hnode:nodeT oj (ks[j]'HJ.out) s' with
   | error q =>
    rw [hnode] at hres
    obtain ⟨q1,q2⟩:=q
    obtain ⟨p,rfl⟩:=aF.isErr hres
    have HRES:Hid (aF l w4 R OB q1 q2 (.iface 121 (.pointer p))):=Lib.hid hres
    have HE:Hid (allT o ks s=.error (q1,q2)):=Lib.hid (Ik (j:=j+1) (by rw [HT1.out,hnode]))
    clear hres hnode
    go_wp2_with fail
    go_ret
    obtain ⟨b1,b2,b3,b4,b5⟩:=HB'.out
    have hle:sizeL (ks.take (j+1))≤sizeL ks:=by
     have e1:sizeL (ks.take (j+1))=sizeL (ks.take j)+sizeI (ks[j]'HJ.out):=by rw [take_one ks j HJ.out,iY]; simp [sizeL]
     omega
    exact⟨HF2.out,s2,vs2,.iface 121 (.pointer p),HST2.out,b1,b2,b3,by omega,by omega,rfl,by rw [HE.out]; exact HRES.out⟩
   | ok s1 =>
    rw [hnode] at hres
    obtain ⟨rfl,rfl⟩:=hres
    have HT2:Hid (allT o (ks.take (j+1)) s=.ok s2):=Lib.hid (by rw [HT1.out,hnode])
    clear hnode
    go_wp2_with fail
    cases gk with
    | zero=>omega
    | succ gk =>
     go_roundg gk
     case measure=>omega
     case rel=>exact⟨j+1,s2,vs2,by omega,by omega,by simp,HT2,HST2,HF2,HB'⟩
end Go.Proofs.YtkkeocnnecegbaaGreatDoor
