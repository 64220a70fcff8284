/- Joint text: PwD, PwE. By an AI agent. -/
import Derived.Test.YtkkeocnnecegbaaGreatDoorQ06
import Derived.Deep.LoopGhost
set_option linter.all false
set_option maxRecDepth 100000
set_option maxHeartbeats 64000000
namespace Go.Proofs.YtkkeocnnecegbaaGreatDoor
open Go.RowKit
def OutB {α:Type} (B:Nat) (w:World) (R d:Nat) (res:Except aY (α×List Tok)) (Post:α→Value→World→Prop) (e:Ending) (w':World):Prop :=
 au B R w w'∧match res with
 | .error (p,er)=>e=.panicked [{ v:=gG p er,recovered:=false }]
 | .ok (x,ts)=>RD w' R ts d∧∃ v,e=.returned v∧Post x v w'
theorem OutB.err {α:Type} {B:Nat} {w:World} {R d:Nat} {res:Except aY (α×List Tok)} {Post:α→Value→World→Prop} {w':World} {p:Nat} {er:Int} (h:res=.error (p,er)) (hk:au B R w w'):OutB B w R d res Post (.panicked [{ v:=gG p er,recovered:=false }]) w':=by
 subst h; exact⟨hk,rfl⟩
theorem OutB.ok {α:Type} {B:Nat} {w:World} {R d:Nat} {res:Except aY (α×List Tok)} {Post:α→Value→World→Prop} {w':World} {x:α} {ts:List Tok} {v:Value} (h:res=.ok (x,ts)) (hk:au B R w w') (hr:RD w' R ts d) (hp:Post x v w'):OutB B w R d res Post (.returned v) w':=by
 subst h; exact⟨hk,hr,v,rfl,hp⟩
theorem RD.deep {w:World} {R:Nat} {ts:List Tok} {d:Nat} (h:RD w R ts d):w.cell? ⟨R,1,none⟩=some (.int .i64 d)∧w.frozen? ⟨R,1,none⟩=false:=by
 obtain ⟨g,o,c,h1,h2,h3,h4,h5⟩:=h.ex
 exact⟨h4.cell 1,h4.free 1⟩
theorem RD.sZ {w:World} {R:Nat} {ts:List Tok} {d:Nat} (h:RD w R ts d) (d':Nat):RD (w.setCell ⟨R,1,none⟩ (.int .i64 d')) R ts d':=by
 obtain ⟨⟨g,o,c,h1,h2,h3,h4,h5⟩,hf,m,hm⟩:=h
 have far:∀ k,k≠R→(w.setCell ⟨R,1,none⟩ (.int .i64 d')).heap[k]? = w.heap[k]?:=fun k hk=>Below.heap_setCell _ _ _ _ hk
 exact⟨⟨g,o,c,h1,h2,h3,h4.put 1 (.int .i64 d'),fun i t hi=>(h5 i t hi).of (far g (by omega))⟩,hf,m,(World.cell?_of_block (w:=w) (far 3 (by omega))).trans hm⟩
def withinR {α:Type} (x y:List UInt8) (d:Nat) (M:List Tok→Except aY (α×List Tok)) (ts:List Tok):Except aY (α×List Tok) :=
 match aR x d ts with
 | .error e=>.error e
 | .ok ts1=>match M ts1 with
  | .error e=>.error e
  | .ok (a,ts2)=>if y=[] then .ok (a,ts2) else match af y ts2 with
   | .error e=>.error e
   | .ok ts3=>.ok (a,ts3)
theorem yE {α:Type} (B R d F:Nat) (x y:List UInt8) (cap:Array Value) (ts:List Tok) (w:World) (M:List Tok→Except aY (α×List Tok)) (P:α→Value→World→Prop) (h:RD w R ts d) (hi:isT x ts=true) (hd:64≤d) (hB:B≤w.heap.size) :
  Calls Tryz.prog 144 #[.pointer (some ⟨R,0,none⟩),.string ⟨x.toArray⟩,.string ⟨y.toArray⟩,.func (.func F) #[] cap] w (OutB B w R d (withinR x y d M ts) P):=by
 obtain ⟨t,r,rfl⟩:=h.fin.cons
 have H:=Lib.hid h; have HI:=Lib.hid hi
 clear h hi
 go_enter Tryz.func144,Tryz.ntmps144
 go_wp2_with fail
 refine (dH R t r d x _ H.out).mono ?_; rintro e w1 ⟨rfl,hb⟩; rw [HI.out]
 have HR:=Lib.hid (H.out.below hb H.out.lt.1)
 obtain ⟨hc,hf⟩:=HR.out.deep
 have hd':(64:Int)≤(d:Int):=by omega
 go_wp2_with fail
 refine (xq R t r d 141 _ HR.out).mono ?_; rintro e w2 ⟨rfl,hb2⟩
 go_wp2_with fail
 refine⟨rfl,OutB.err ?_ (.of ((hb.trans (hb2.mono hb.size)).mono hB))⟩
 unfold withinR aR
 rw [if_pos (by rw [HI.out]; simpa using hd)]
 rfl
theorem D9 {α:Type} (B R d F:Nat) (x y:List UInt8) (cap:Array Value) (ts:List Tok) (w:World) (M:List Tok→Except aY (α×List Tok)) (P:α→Value→World→Prop) (h:RD w R ts d) (hi:isT x ts=false) (hB:B≤w.heap.size) :
  Calls Tryz.prog 144 #[.pointer (some ⟨R,0,none⟩),.string ⟨x.toArray⟩,.string ⟨y.toArray⟩,.func (.func F) #[] cap] w (OutB B w R d (withinR x y d M ts) P):=by
 obtain ⟨t,r,rfl⟩:=h.fin.cons
 have H:=Lib.hid h; have HI:=Lib.hid hi
 clear h hi
 go_enter Tryz.func144,Tryz.ntmps144
 go_wp2_with fail
 refine (dH R t r d x _ H.out).mono ?_; rintro e w1 ⟨rfl,hb⟩; rw [HI.out]
 have HR:=Lib.hid (H.out.below hb H.out.lt.1)
 go_wp2_with fail
 refine (eX HR.out HI.out).mono ?_; rintro e w2 ⟨rfl,hb2⟩
 go_wp2_with fail
 refine⟨rfl,OutB.err ?_ (.of ((hb.trans (hb2.mono hb.size)).mono hB))⟩
 unfold withinR aR af
 rw [HI.out]
 rfl
theorem Bz {α:Type} (B R d F:Nat) (x y:List UInt8) (cap:Array Value) (t:Tok) (r:List Tok) (w:World) (M:List Tok→Except aY (α×List Tok)) (P:α→Value→World→Prop) (h:RD w R (t :: r) d) (hi:isT x (t :: r)=true) (hd:d<64) (hB:B≤w.heap.size) (hE:∀ W,(callFunc F cap).run Tryz.prog W=.ok (.enter F cap) W)
  (hF:∀ w1,RD w1 R r (d+1)→au w.heap.size R w w1→Calls Tryz.prog F cap w1 (OutB B w1 R (d+1) (M r) fun a v w'=>v=.tuple #[]∧P a v w'))
  (hP:∀ a w1 w2,P a (.tuple #[]) w1→au w1.heap.size R w1 w2→P a (.tuple #[]) w2) :
  Calls Tryz.prog 144 #[.pointer (some ⟨R,0,none⟩),.string ⟨x.toArray⟩,.string ⟨y.toArray⟩,.func (.func F) #[] cap] w (OutB B w R d (withinR x y d M (t :: r)) P):=by
 have hop:aR x d (t :: r)=.ok r:=by
  unfold aR af
  rw [hi,if_neg (by simp; omega),if_pos rfl]; rfl
 have HOP:=Lib.hid hop
 have H:=Lib.hid h; have HI:=Lib.hid hi
 have HF:=Lib.hid hF; have HP:=Lib.hid hP
 clear h hi hF hP hop
 have hBB:=hB
 go_enter Tryz.func144,Tryz.ntmps144
 go_wp2_with fail
 refine (dH R t r d x _ H.out).mono ?_; rintro e w1 ⟨rfl,hb⟩; rw [HI.out]
 have HR:=Lib.hid (H.out.below hb H.out.lt.1)
 obtain ⟨hc,hf⟩:=HR.out.deep
 have hd':¬ (64:Int)≤(d:Int):=by omega
 go_wp2_with fail
 refine (dN HR.out HI.out).mono ?_; rintro e w2 ⟨rfl,hr2,hk2⟩
 clear hc hf
 have HK2:=Lib.hid ((au.of hb).trans hk2 hb.size)
 have HR2:=Lib.hid hr2
 obtain ⟨hc,hf⟩:=HR2.out.deep
 clear hk2 hb hr2
 have hdh:(d:Int)<64:=by omega
 go_upto_region 4 with fail
 have hcast:(Value.int .i64 ((d:Int)+1))=.int .i64 ((d+1:Nat):Int):=by simp
 rw [hcast]
 have HR3:=Lib.hid (HR2.out.sZ (d+1))
 have HK3:=Lib.hid (HK2.out.setCell (p:=⟨R,1,none⟩) (Or.inl rfl) (.int .i64 ((d+1:Nat):Int)))
 clear hcast hc hf HR2
 generalize w2.setCell ⟨R,1,none⟩ (.int .i64 ((d+1:Nat):Int))=W3 at *
 clear HK2
 go_wp2_with fail
 refine (HF.out _ HR3.out HK3.out).mono ?_
 intro e w4 ho
 obtain ⟨hk4,ho⟩:=ho
 have HK4:=Lib.hid ((HK3.out.mono hB).trans hk4 (Nat.le_refl _))
 have hs4:B≤w4.heap.size:=Nat.le_trans hB (Nat.le_trans HK3.out.size hk4.size)
 cases hM:M r with
 | error q =>
  obtain ⟨p,er⟩:=q
  rw [hM] at ho
  subst ho
  refine⟨rfl,OutB.err ?_ HK4.out⟩
  unfold withinR
  rw [HOP.out]
  simp only []
  rw [hM]
 | ok q =>
  obtain ⟨a,ts2⟩:=q
  rw [hM] at ho
  obtain ⟨hr4,v,rfl,rfl,hp⟩:=ho
  have HR4:=Lib.hid hr4
  have HP4:=Lib.hid hp
  have HM:=Lib.hid hM
  clear hM hr4 hp hk4 HK3 HR3 HF
  have hRl:=HR4.out.lt.1
  have hd1:((d+1:Nat):Int)=(d:Int)+1:=by simp
  have hdd:((d+1:Nat):Int) - 1=(d:Int):=by omega
  have hdb:((d+1:Nat):Int)≤64:=by omega
  have hdz:(0:Int)≤((d+1:Nat):Int):=by omega
  obtain ⟨D,hD⟩:∃ D:Int,D=((d+1:Nat):Int):=⟨_,rfl⟩
  have HD:=Lib.hid hD
  cases y with
  | nil =>
   obtain ⟨hc,hf⟩:=HR4.out.deep
   rw [← hD] at hdb hdz hc
   clear hD hd1 hdd
   go_wp2_with fail
   go_end0
   have hdd:D - 1=(d:Int):=by have:=HD.out; omega
   rw [hdd]
   refine OutB.ok (x:=a) (ts:=ts2) ?_ (HK4.out.setCell (Or.inl rfl) _) (HR4.out.sZ d) (HP.out a w4 _ HP4.out ((au.refl _ R w4).setCell (Or.inl rfl) _))
   unfold withinR
   rw [HOP.out]
   simp only []
   rw [HM.out]
   rfl
  | cons c y =>
   obtain ⟨t2,r2,rfl⟩:=HR4.out.fin.cons
   cases hi2:isT (c :: y) (t2 :: r2)
   ·have HI2:=Lib.hid hi2; clear hi2 hd1 hdd hD hdb hdz
    go_wp2_with fail
    refine (eX HR4.out HI2.out).mono ?_; rintro e w5 ⟨rfl,hb5⟩
    go_wp2_with fail
    refine⟨rfl,OutB.err ?_ (HK4.out.below hb5 hs4)⟩
    unfold withinR
    rw [HOP.out]
    simp only []
    rw [HM.out]
    simp only []
    unfold af
    rw [if_neg (by simp),HI2.out]
    rfl
   ·have HI2:=Lib.hid hi2; clear hi2 hd1 hdd
    go_wp2_with fail
    refine (dN HR4.out HI2.out).mono ?_; rintro e w5 ⟨rfl,hr5,hk5⟩
    obtain ⟨hc,hf⟩:=hr5.deep
    rw [← hD] at hdb hdz hc
    have HR5:=Lib.hid hr5; have HK5:=Lib.hid hk5
    clear hD hr5 hk5
    go_wp2_with fail
    go_end0
    have hdd:D - 1=(d:Int):=by have:=HD.out; omega
    rw [hdd]
    refine OutB.ok (x:=a) (ts:=r2) ?_ ((HK4.out.trans HK5.out hs4).setCell (Or.inl rfl) _) (HR5.out.sZ d) (HP.out a w4 _ HP4.out (HK5.out.setCell (Or.inl rfl) _))
    unfold withinR
    rw [HOP.out]
    simp only []
    rw [HM.out]
    simp only []
    unfold af
    rw [if_neg (by simp),HI2.out]
    rfl
theorem ji {α:Type} (B R d F:Nat) (x y:List UInt8) (cap:Array Value) (ts:List Tok) (w:World) (M:List Tok→Except aY (α×List Tok)) (P:α→Value→World→Prop) (h:RD w R ts d) (hd:d≤64) (hB:B≤w.heap.size) (hE:∀ W,(callFunc F cap).run Tryz.prog W=.ok (.enter F cap) W)
  (hF:∀ ts1 w1,aR x d ts=.ok ts1→RD w1 R ts1 (d+1)→au w.heap.size R w w1→Calls Tryz.prog F cap w1 (OutB B w1 R (d+1) (M ts1) fun a v w'=>v=.tuple #[]∧P a v w'))
  (hP:∀ a w1 w2,P a (.tuple #[]) w1→au w1.heap.size R w1 w2→P a (.tuple #[]) w2) :
  Calls Tryz.prog 144 #[.pointer (some ⟨R,0,none⟩),.string ⟨x.toArray⟩,.string ⟨y.toArray⟩,.func (.func F) #[] cap] w (OutB B w R d (withinR x y d M ts) P):=by
 cases hi:isT x ts
 ·exact D9 B R d F x y cap ts w M P h hi hB
 ·by_cases hd64:64≤d
  ·exact yE B R d F x y cap ts w M P h hi hd64 hB
  ·obtain ⟨t,r,rfl⟩:=h.fin.cons
   have hop:aR x d (t :: r)=.ok r:=by
    unfold aR af
    rw [hi,if_neg (by simp; omega),if_pos rfl]; rfl
   exact Bz B R d F x y cap t r w M P h hi (by omega) hB hE (fun w1=>hF r w1 hop) hP
end Go.Proofs.YtkkeocnnecegbaaGreatDoor
namespace Go.Proofs.YtkkeocnnecegbaaGreatDoor
open Go.RowKit
abbrev Rd:=Except aY (Item×List Tok)
abbrev RdL:=Except aY (List Item×List Tok)
def listStep (M:List Tok→Rd) (S:Bool→List Item→List Tok→RdL) (first:Bool) (acc:List Item) (ts:List Tok):RdL :=
 if isT [41] ts=true then .ok (acc,ts)
 else match (if first then .ok ts else af [44] ts) with
  | .error e=>.error e
  | .ok ts1=>match M ts1 with
   | .error e=>.error e
   | .ok (x,ts2)=>S false (acc ++ [x]) ts2
theorem wZ {M:List Tok→Rd} {S:Bool→List Item→List Tok→RdL} {b:Bool} {acc:List Item} {ts:List Tok} (h:isT [41] ts=true):listStep M S b acc ts=.ok (acc,ts):=by
 unfold listStep; rw [if_pos h]
theorem xe {M:List Tok→Rd} {S:Bool→List Item→List Tok→RdL} {acc:List Item} {ts:List Tok} {e:aY} (h:isT [41] ts=false) (h2:af [44] ts=.error e):listStep M S false acc ts=.error e:=by
 unfold listStep; rw [if_neg (by rw [h]; simp),if_neg (by simp),h2]
theorem pz {M:List Tok→Rd} {S:Bool→List Item→List Tok→RdL} {b:Bool} {acc:List Item} {ts ts1:List Tok} (h:isT [41] ts=false) (h2:(b=true∧ts1=ts)∨(b=false∧af [44] ts=.ok ts1)):listStep M S b acc ts=match M ts1 with
   | .error e=>.error e
   | .ok (x,ts2)=>S false (acc ++ [x]) ts2:=by
 unfold listStep; rw [if_neg (by rw [h]; simp)]
 rcases h2 with ⟨rfl,rfl⟩ | ⟨rfl,h2⟩
 ·rw [if_pos rfl]
 ·rw [if_neg (by simp),h2]
def listR (S:List Tok→RdL) (ts:List Tok):RdL :=
 match af [40] ts with
 | .error e=>.error e
 | .ok ts1=>match S ts1 with
  | .error e=>.error e
  | .ok (l,ts2)=>match af [41] ts2 with
   | .error e=>.error e
   | .ok ts3=>.ok (l,ts3)
theorem xV (B R d F f0 T:Nat) (cap:Array Value) (M:Nat→List Tok→Rd) (S:Nat→Bool→List Item→List Tok→RdL) (Q:List Item→World→Prop) (ts:List Tok) (w:World) (h:RD w R ts d) (hB:B≤w.heap.size) (hE:∀ W,(callFunc F cap).run Tryz.prog W=.ok (.enter F cap) W)
  (hS0:∀ b acc ts,S 0 b acc ts=.error aI) (hS:∀ f b acc ts,S (f+1) b acc ts=listStep (M f) (S f) b acc ts)
  (hM:∀ f ts x r,ah ts→M f ts=.ok (x,r)→r.length<ts.length) (hT:ts.length≤T)
  (hQ0:Q [] w) (hQ:∀ l w1 w2,Q l w1→au w1.heap.size R w1 w2→Q l w2)
  (hF:∀ f ts1 w1 acc,f<f0→M f ts1≠.error aI→acc.length+ts1.length≤T→Q acc w1→RD w1 R ts1 d→B≤w1.heap.size→Calls Tryz.prog F cap w1 (OutB B w1 R d (M f ts1) fun x v w'=>v=.tuple #[]∧Q (acc ++ [x]) w'))
  (hne:listR (S f0 true []) ts≠.error aI) :
  Calls Tryz.prog 93 #[.pointer (some ⟨R,0,none⟩),.func (.func F) #[] cap] w (OutB B w R d (listR (S f0 true []) ts) fun l v w'=>v=.tuple #[]∧Q l w'):=by
 have H:=Lib.hid h; have HS0:=Lib.hid hS0; have HS:=Lib.hid hS; have HM:=Lib.hid hM; have HQ0:=Lib.hid hQ0; have HQ:=Lib.hid hQ; have HF:=Lib.hid hF; have HNE:=Lib.hid hne; have HT:=Lib.hid hT
 clear h hS0 hS hM hQ0 hQ hF hne hT
 obtain ⟨t,r,rfl⟩:=H.out.fin.cons
 cases hi:isT [40] (t :: r)
 ·have HI:=Lib.hid hi; clear hi
  go_enter Tryz.func93,Tryz.ntmps93
  go_wp2_with fail
  refine (eX (x:=[40]) H.out HI.out).mono ?_; rintro e w1 ⟨rfl,hb⟩
  go_wp2_with fail
  refine⟨rfl,OutB.err ?_ (.of (hb.mono hB))⟩
  unfold listR af
  rw [HI.out]; rfl
 ·have HI:=Lib.hid hi; clear hi
  have htk:af [40] (t :: r)=.ok r:=by unfold af; rw [HI.out,if_pos rfl]; rfl
  have HLR:Hid (∀ e,listR (S f0 true []) (t :: r)=e↔(match S f0 true [] r with | .error e=>.error e | .ok (l,ts2)=>match af [41] ts2 with | .error e=>.error e | .ok ts3=>(.ok (l,ts3):RdL))=e):=Lib.hid (by intro e; unfold listR; rw [htk])
  have HTR:Hid (r.length≤T):=Lib.hid (by have:=HT.out; simp only [List.length_cons] at this; omega)
  clear htk
  go_enter Tryz.func93,Tryz.ntmps93
  go_wp2_with fail
  refine (dN (x:=[40]) H.out HI.out).mono ?_; rintro e w1 ⟨rfl,hr1,hk1⟩
  have HR1:=Lib.hid hr1; have HK1:=Lib.hid hk1
  have hs1:B≤w1.heap.size:=Nat.le_trans hB hk1.size
  clear hr1 hk1
  go_wp2_with fail
  go_loopg [4] f0 (fun g v wr=>∃ (first:Bool) (acc:List Item) (ts':List Tok),v=.bool first∧Hid (RD wr R ts' d∧au B R w wr∧B≤wr.heap.size∧g≤f0∧acc.length+ts'.length≤T)∧Hid (Q acc wr)∧Hid (S g first acc ts'=S f0 true [] r))
  case atStart=>exact⟨true,[],r,rfl,Lib.hid ⟨HR1.out,HK1.out.mono hB,hs1,Nat.le_refl _,by have:=HTR.out; simpa using this⟩,Lib.hid (HQ.out _ _ _ HQ0.out HK1.out),Lib.hid rfl⟩
  case round =>
   obtain ⟨first,acc,ts',rfl,HA,HQA,HG⟩:=hrel
   obtain ⟨t',r',rfl⟩:=HA.out.1.fin.cons
   cases gk with
   | zero =>
    exfalso
    have:=HG.out
    rw [HS0.out] at this
    have h2:=(HLR.out (.error aI)).2 (by rw [← this])
    exact HNE.out h2
   | succ gk =>
    cases hi:isT [41] (t' :: r')
    ·have HI':=Lib.hid hi; clear hi
     cases first with
     | true =>
      have HG2:Hid ((match M gk (t' :: r') with
       | .error e=>.error e
       | .ok (x,ts2)=>S gk false (acc ++ [x]) ts2)=S f0 true [] r):=Lib.hid (by rw [← HG.out,HS.out,pz HI'.out (Or.inl ⟨rfl,rfl⟩)])
      clear HG
      go_wp2_with fail
      refine (dH R t' r' d [41] _ HA.out.1).mono ?_; rintro e w2 ⟨rfl,hb2⟩; rw [HI'.out]
      have HR2:=Lib.hid (HA.out.1.below hb2 HA.out.1.lt.1)
      have HQ2:=Lib.hid (HQ.out _ _ _ HQA.out (.of hb2))
      have hs2:B≤w2.heap.size:=Nat.le_trans HA.out.2.2.1 hb2.size
      have HK2:=Lib.hid (HA.out.2.1.below hb2 HA.out.2.2.1)
      clear hb2 HQA
      go_wp2_with fail
      refine (HF.out gk (t' :: r') _ acc (by have:=HA.out.2.2.2.1; omega) (fun hm=>HNE.out ((HLR.out _).2 (by rw [← HG2.out,hm]))) (by have:=HA.out.2.2.2.2; simp only [List.length_cons] at this ⊢; omega) HQ2.out HR2.out hs2).mono ?_
      intro e w4 ho
      obtain ⟨hk4,ho⟩:=ho
      have HK4:=Lib.hid (HK2.out.trans hk4 (Nat.le_refl _))
      have hs4:B≤w4.heap.size:=Nat.le_trans hs2 hk4.size
      cases hMM:M gk (t' :: r') with
      | error q =>
       obtain ⟨p,er⟩:=q
       rw [hMM] at ho
       subst ho
       refine⟨rfl,OutB.err ((HLR.out _).2 ?_) HK4.out⟩
       rw [← HG2.out,hMM]
      | ok q =>
       obtain ⟨x,ts2⟩:=q
       rw [hMM] at ho
       obtain ⟨hr4,v,rfl,rfl,hp⟩:=ho
       have HR4:=Lib.hid hr4
       have HP4:=Lib.hid hp
       have hlen:=HM.out _ _ _ _ HR2.out.fin hMM
       have HLN:=Lib.hid hlen
       have HG3:Hid (S gk false (acc ++ [x]) ts2=S f0 true [] r):=Lib.hid (by rw [← HG2.out,hMM])
       clear hr4 hp hk4 hMM hlen
       go_wp2_with fail
       go_roundg gk
       case measure=>omega
       case rel=>exact⟨false,acc ++ [x],ts2,rfl,Lib.hid ⟨HR4.out,HK4.out,hs4,by have:=HA.out.2.2.2.1; omega,by have:=HA.out.2.2.2.2; have:=HLN.out; simp only [List.length_cons,List.length_append,List.length_nil] at *; omega⟩,HP4,HG3⟩
     | false =>
      cases hc:isT [44] (t' :: r')
      ·have HC:=Lib.hid hc; clear hc
       go_wp2_with fail
       refine (dH R t' r' d [41] _ HA.out.1).mono ?_; rintro e w2 ⟨rfl,hb2⟩; rw [HI'.out]
       have HR2:=Lib.hid (HA.out.1.below hb2 HA.out.1.lt.1)
       have HK2:=Lib.hid (HA.out.2.1.below hb2 HA.out.2.2.1)
       have hs2:B≤w2.heap.size:=Nat.le_trans HA.out.2.2.1 hb2.size
       clear hb2
       go_wp2_with fail
       refine (eX (x:=[44]) HR2.out HC.out).mono ?_; rintro e w3 ⟨rfl,hb3⟩
       go_wp2_with fail
       refine⟨rfl,OutB.err ((HLR.out _).2 ?_) (HK2.out.below hb3 hs2)⟩
       rw [← HG.out,HS.out,xe HI'.out (e:=(t'.at',140)) (by unfold af; rw [HC.out]; rfl)]
      ·have HC:=Lib.hid hc; clear hc
       have HG2:Hid ((match M gk r' with
        | .error e=>.error e
        | .ok (x,ts2)=>S gk false (acc ++ [x]) ts2)=S f0 true [] r):=Lib.hid (by rw [← HG.out,HS.out,pz (ts1:=r') HI'.out (Or.inr ⟨rfl,by unfold af; rw [HC.out,if_pos rfl]; rfl⟩)])
       clear HG
       go_wp2_with fail
       refine (dH R t' r' d [41] _ HA.out.1).mono ?_; rintro e w2 ⟨rfl,hb2⟩; rw [HI'.out]
       have HR2:=Lib.hid (HA.out.1.below hb2 HA.out.1.lt.1)
       have HQ2:=Lib.hid (HQ.out _ _ _ HQA.out (.of hb2))
       have hs2:B≤w2.heap.size:=Nat.le_trans HA.out.2.2.1 hb2.size
       have HK2:=Lib.hid (HA.out.2.1.below hb2 HA.out.2.2.1)
       clear hb2 HQA
       go_wp2_with fail
       refine (dN (x:=[44]) HR2.out HC.out).mono ?_; rintro e w3 ⟨rfl,hr3,hk3⟩
       have HR3:=Lib.hid hr3
       have HQ3:=Lib.hid (HQ.out _ _ _ HQ2.out hk3)
       have hs3:B≤w3.heap.size:=Nat.le_trans hs2 hk3.size
       have HK3:=Lib.hid (HK2.out.trans hk3 hs2)
       clear hr3 hk3
       go_wp2_with fail
       refine (HF.out gk r' _ acc (by have:=HA.out.2.2.2.1; omega) (fun hm=>HNE.out ((HLR.out _).2 (by rw [← HG2.out,hm]))) (by have:=HA.out.2.2.2.2; simp only [List.length_cons] at this ⊢; omega) HQ3.out HR3.out hs3).mono ?_
       intro e w4 ho
       obtain ⟨hk4,ho⟩:=ho
       have HK4:=Lib.hid (HK3.out.trans hk4 (Nat.le_refl _))
       have hs4:B≤w4.heap.size:=Nat.le_trans hs3 hk4.size
       cases hMM:M gk r' with
       | error q =>
        obtain ⟨p,er⟩:=q
        rw [hMM] at ho
        subst ho
        refine⟨rfl,OutB.err ((HLR.out _).2 ?_) HK4.out⟩
        rw [← HG2.out,hMM]
       | ok q =>
        obtain ⟨x,ts2⟩:=q
        rw [hMM] at ho
        obtain ⟨hr4,v,rfl,rfl,hp⟩:=ho
        have HR4:=Lib.hid hr4
        have HP4:=Lib.hid hp
        have hlen:=HM.out _ _ _ _ HR3.out.fin hMM
        have HLN:=Lib.hid hlen
        have HG3:Hid (S gk false (acc ++ [x]) ts2=S f0 true [] r):=Lib.hid (by rw [← HG2.out,hMM])
        clear hr4 hp hk4 hMM hlen
        go_wp2_with fail
        go_roundg gk
        case measure=>omega
        case rel=>exact⟨false,acc ++ [x],ts2,rfl,Lib.hid ⟨HR4.out,HK4.out,hs4,by have:=HA.out.2.2.2.1; omega,by have:=HA.out.2.2.2.2; have:=HLN.out; simp only [List.length_cons,List.length_append,List.length_nil] at *; omega⟩,HP4,HG3⟩
    ·have HI':=Lib.hid hi; clear hi
     have HG2:Hid (S f0 true [] r=.ok (acc,t' :: r')):=Lib.hid (by rw [← HG.out,HS.out,wZ HI'.out])
     clear HG
     go_wp2_with fail
     refine (dH R t' r' d [41] _ HA.out.1).mono ?_; rintro e w2 ⟨rfl,hb2⟩; rw [HI'.out]
     have HR2:=Lib.hid (HA.out.1.below hb2 HA.out.1.lt.1)
     have HQ2:=Lib.hid (HQ.out _ _ _ HQA.out (.of hb2))
     have hs2:B≤w2.heap.size:=Nat.le_trans HA.out.2.2.1 hb2.size
     have HK2:=Lib.hid (HA.out.2.1.below hb2 HA.out.2.2.1)
     clear hb2 HQA
     go_wp2_with fail
     refine (dN (x:=[41]) HR2.out HI'.out).mono ?_; rintro e w3 ⟨rfl,hr3,hk3⟩
     have HR3:=Lib.hid hr3
     have HQ3:=Lib.hid (HQ.out _ _ _ HQ2.out hk3)
     have HK3:=Lib.hid (HK2.out.trans hk3 hs2)
     clear hr3 hk3
     go_wp2_with fail
     go_end0
     refine OutB.ok (x:=acc) (ts:=r') ((HLR.out _).2 ?_) HK3.out HR3.out ⟨rfl,HQ3.out⟩
     rw [HG2.out]
     simp only []
     unfold af
     rw [HI'.out]
     rfl
end Go.Proofs.YtkkeocnnecegbaaGreatDoor
