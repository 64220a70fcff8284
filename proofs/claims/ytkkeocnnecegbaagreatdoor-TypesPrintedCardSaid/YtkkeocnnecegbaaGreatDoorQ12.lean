/- Joint text: PwL, PwM. By an AI agent. -/
import Derived.Test.YtkkeocnnecegbaaGreatDoorQ11
set_option linter.all false
set_option maxRecDepth 100000
set_option maxHeartbeats 64000000
namespace Go.Proofs.YtkkeocnnecegbaaGreatDoor
open Go.RowKit
theorem loop_any (f R d X L C a T:Nat) (ts:List Tok) (w:World) (h:RD w R ts d) (hx:aO w X L C (.mk 10 [] 0 a [])) (hR:R<X) (hd:d≤64) (hT:ts.length≤T)
  (ih:∀ W ts',RD W R ts' d→ts'.length≤T→aH f d ts'≠.error aI→Calls Tryz.prog 95 #[.pointer (some ⟨R,0,none⟩)] W (aX W R d (aH f d ts')))
  (hne:fw (f+1) d a ts≠.error aI) :
  Calls Tryz.prog 182 #[.pointer (some ⟨R,0,none⟩),.pointer (some ⟨X,0,none⟩)] w (OutB X w R d (fw (f+1) d a ts) (nV X L)):=by
 have hU:fw (f+1) d a ts=match binS f 1 d ts with
  | .error e=>.error e
  | .ok (x,ts1)=>match aH f d ts1 with
   | .error e=>.error e
   | .ok (b,ts2)=>.ok (.mk 10 [] 0 a [x,b],ts2):=by
  conv=>lhs; unfold fw
  cases binS f 1 d ts with
  | error e=>rfl
  | ok v =>
   obtain ⟨x,ts1⟩:=v
   simp only []
   cases aH f d ts1 <;> rfl
 have H:=Lib.hid h; have HX:=Lib.hid hx; have HNE:=Lib.hid hne; have HU:=Lib.hid hU; have IH:=Lib.hid ih
 have hlt:=hx.lt; have hle:=hx.le; have htop:=hx.top
 clear h hx hne hU ih
 go_enter Tryz.func182,Tryz.ntmps182
 go_wp2_with fail
 refine (nL f R d ts w H.out hd (fun hc=>HNE.out (by rw [HU.out,hc]))).mono ?_
 rintro e w1 ho
 cases hW:binS f 1 d ts with
 | error q =>
  obtain ⟨p,er⟩:=q
  rw [hW] at ho
  obtain ⟨rfl,hk1⟩:=ho.no
  exact⟨rfl,OutB.err (by rw [HU.out,hW]) (hk1.mono (by omega))⟩
 | ok q =>
  obtain ⟨x,ts1⟩:=q
  rw [hW] at ho
  obtain ⟨p,rfl,hi1,hr1,hk1⟩:=ho.yes
  have HU1:Hid (fw (f+1) d a ts=match aH f d ts1 with
   | .error e=>.error e
   | .ok (b,ts2)=>.ok (.mk 10 [] 0 a [x,b],ts2)):=Lib.hid (by rw [HU.out,hW])
  have HL1:=Lib.hid ((fE H.out.fin hW).2)
  have HI:=Lib.hid hi1
  have HR1:=Lib.hid hr1
  have HX1:=Lib.hid ((HX.out.grow htop (Nat.le_refl _)).keep hk1 (Nat.le_refl _) hR)
  have HK1:=Lib.hid hk1
  have hs1:=hk1.size
  clear hW hi1 hr1 hk1 HU
  go_wp2_with fail
  refine (IH.out w1 ts1 HR1.out (by have:=HL1.out; omega) (fun hc=>HNE.out (by rw [HU1.out,hc]))).mono ?_
  rintro e w2 ho
  cases hW:aH f d ts1 with
  | error q =>
   obtain ⟨p,er⟩:=q
   rw [hW] at ho
   obtain ⟨rfl,hk2⟩:=ho.no
   exact⟨rfl,OutB.err (by rw [HU1.out,hW]) ((HK1.out.trans hk2 hs1).mono (by omega))⟩
  | ok q =>
   obtain ⟨b,ts2⟩:=q
   rw [hW] at ho
   obtain ⟨q,rfl,hi2,hr2,hk2⟩:=ho.yes
   have HU2:Hid (fw (f+1) d a ts=.ok (.mk 10 [] 0 a [x,b],ts2)):=Lib.hid (by rw [HU1.out,hW])
   have hs2:=hk2.size
   have HP:=Lib.hid (HI.out.keep (w':=w2) (fun j hj hl=>hk2.block j hl (by omega)))
   have HKS:Hid (KidsAt (w2.alloc (.cells #[.pointer (some ⟨p,0,none⟩),.pointer (some ⟨q,0,none⟩)] 93)) (fun j=>w.heap.size≤j) [p,q] [x,b]):=Lib.hid (by
    unfold KidsAt
    exact⟨HP.out.alloc _,KidsAt.one ((hi2.alloc _).mono (fun j hj _=>by omega))⟩)
   have HX2:=Lib.hid ((HX1.out.keep hk2 hs1 hR).alloc (.cells #[.pointer (some ⟨p,0,none⟩),.pointer (some ⟨q,0,none⟩)] 93))
   have HR2:=Lib.hid (hr2.alloc (.cells #[.pointer (some ⟨p,0,none⟩),.pointer (some ⟨q,0,none⟩)] 93))
   have HK2:=Lib.hid (((HK1.out.trans hk2 hs1).mono (C:=X) (by omega)).alloc (by omega) (.cells #[.pointer (some ⟨p,0,none⟩),.pointer (some ⟨q,0,none⟩)] 93))
   clear hW hi2 hr2 hk2 HU1 HP
   go_wp2_with fail
   refine (fG X L w.heap.size w2.heap.size 2 10 a [] 0 [] [x,b] [p,q] _ HX2.out (Blk.new w2 93 _) HKS.out rfl (by omega) (by simp)).mono ?_
   rintro e w3 ⟨rfl,hx3,hk3⟩
   have HX3:=Lib.hid hx3
   have HR3:=Lib.hid (HR2.out.item hk3 hR hlt)
   have HK3:=Lib.hid (HK2.out.trans (hk3.item (B:=X) (Nat.le_refl _) hlt) (Nat.le_refl _))
   clear hx3 hk3
   go_wp2_with fail
   go_end0
   exact OutB.ok HU2.out HK3.out HR3.out ⟨rfl,_,HX3.out⟩
theorem Av (f R d X L C a T:Nat) (ts:List Tok) (w:World) (h:RD w R ts d) (hx:aO w X L C (.mk 9 [] 0 a [])) (hR:R<X) (hd:d≤64) (hT:ts.length≤T)
  (ih:∀ W ts',RD W R ts' d→ts'.length≤T→aH f d ts'≠.error aI→Calls Tryz.prog 95 #[.pointer (some ⟨R,0,none⟩)] W (aX W R d (aH f d ts')))
  (hne:bI (f+1) d a ts≠.error aI) :
  Calls Tryz.prog 181 #[.pointer (some ⟨R,0,none⟩),.pointer (some ⟨X,0,none⟩)] w (OutB X w R d (bI (f+1) d a ts) (nV X L)):=by
 have hU:bI (f+1) d a ts=match binS f 1 d ts with
  | .error e=>.error e
  | .ok (x,ts1)=>match aH f d ts1 with
   | .error e=>.error e
   | .ok (b,ts2) =>
    if isT [101,108,115,101] ts2=true then
     match aH f d ts2.tail with
     | .error e=>.error e
     | .ok (c,ts3)=>.ok (.mk 9 [] 0 a [x,b,c],ts3)
    else .ok (.mk 9 [] 0 a [x,b],ts2):=by
  conv=>lhs; unfold bI
  cases binS f 1 d ts with
  | error e=>rfl
  | ok v =>
   obtain ⟨x,ts1⟩:=v
   simp only []
   cases aH f d ts1 with
   | error e=>rfl
   | ok v =>
    obtain ⟨b,ts2⟩:=v
    simp only []
    split
    ·cases aH f d ts2.tail <;> rfl
    ·rfl
 have H:=Lib.hid h; have HX:=Lib.hid hx; have HNE:=Lib.hid hne; have HU:=Lib.hid hU; have IH:=Lib.hid ih
 have hlt:=hx.lt; have hle:=hx.le; have htop:=hx.top
 clear h hx hne hU ih
 go_enter Tryz.func181,Tryz.ntmps181
 go_wp2_with fail
 refine (nL f R d ts w H.out hd (fun hc=>HNE.out (by rw [HU.out,hc]))).mono ?_
 rintro e w1 ho
 cases hW:binS f 1 d ts with
 | error q =>
  obtain ⟨p,er⟩:=q
  rw [hW] at ho
  obtain ⟨rfl,hk1⟩:=ho.no
  exact⟨rfl,OutB.err (by rw [HU.out,hW]) (hk1.mono (by omega))⟩
 | ok q =>
  obtain ⟨x,ts1⟩:=q
  rw [hW] at ho
  obtain ⟨p,rfl,hi1,hr1,hk1⟩:=ho.yes
  have HU1:Hid (bI (f+1) d a ts=match aH f d ts1 with
   | .error e=>.error e
   | .ok (b,ts2) =>
    if isT [101,108,115,101] ts2=true then
     match aH f d ts2.tail with
     | .error e=>.error e
     | .ok (c,ts3)=>.ok (.mk 9 [] 0 a [x,b,c],ts3)
    else .ok (.mk 9 [] 0 a [x,b],ts2)):=Lib.hid (by rw [HU.out,hW])
  have HL1:=Lib.hid ((fE H.out.fin hW).2)
  have HI:=Lib.hid hi1
  have HR1:=Lib.hid hr1
  have HX1:=Lib.hid ((HX.out.grow htop (Nat.le_refl _)).keep hk1 (Nat.le_refl _) hR)
  have HK1:=Lib.hid hk1
  have hs1:=hk1.size
  clear hW hi1 hr1 hk1 HU
  go_wp2_with fail
  refine (IH.out w1 ts1 HR1.out (by have:=HL1.out; omega) (fun hc=>HNE.out (by rw [HU1.out,hc]))).mono ?_
  rintro e w2 ho
  cases hW:aH f d ts1 with
  | error q =>
   obtain ⟨p,er⟩:=q
   rw [hW] at ho
   obtain ⟨rfl,hk2⟩:=ho.no
   exact⟨rfl,OutB.err (by rw [HU1.out,hW]) ((HK1.out.trans hk2 hs1).mono (by omega))⟩
  | ok q =>
   obtain ⟨b,ts2⟩:=q
   rw [hW] at ho
   obtain ⟨q,rfl,hi2,hr2,hk2⟩:=ho.yes
   have HU2:Hid (bI (f+1) d a ts=if isT [101,108,115,101] ts2=true then
     match aH f d ts2.tail with
     | .error e=>.error e
     | .ok (c,ts3)=>.ok (.mk 9 [] 0 a [x,b,c],ts3)
    else .ok (.mk 9 [] 0 a [x,b],ts2)):=Lib.hid (by rw [HU1.out,hW])
   have HL2:=Lib.hid (((kC f).1 _ _ _ _ HR1.out.fin hW).2)
   have hs2:=hk2.size
   have HP:=Lib.hid (HI.out.keep (w':=w2) (fun j hj hl=>hk2.block j hl (by omega)))
   have HKS:Hid (KidsAt (w2.alloc (.cells #[.pointer (some ⟨p,0,none⟩),.pointer (some ⟨q,0,none⟩)] 93)) (fun j=>w.heap.size≤j) [p,q] [x,b]):=Lib.hid (by
    unfold KidsAt
    exact⟨HP.out.alloc _,KidsAt.one ((hi2.alloc _).mono (fun j hj _=>by omega))⟩)
   have HX2:=Lib.hid ((HX1.out.keep hk2 hs1 hR).alloc (.cells #[.pointer (some ⟨p,0,none⟩),.pointer (some ⟨q,0,none⟩)] 93))
   have HR2:=Lib.hid (hr2.alloc (.cells #[.pointer (some ⟨p,0,none⟩),.pointer (some ⟨q,0,none⟩)] 93))
   have HK2:=Lib.hid (((HK1.out.trans hk2 hs1).mono (C:=X) (by omega)).alloc (by omega) (.cells #[.pointer (some ⟨p,0,none⟩),.pointer (some ⟨q,0,none⟩)] 93))
   clear hW hi2 hr2 hk2 HU1 HP
   go_wp2_with fail
   refine (fG X L w.heap.size w2.heap.size 2 9 a [] 0 [] [x,b] [p,q] _ HX2.out (Blk.new w2 93 _) HKS.out rfl (by omega) (by simp)).mono ?_
   rintro e w3 ⟨rfl,hx3,hk3⟩
   have HX3:=Lib.hid hx3
   have HR3:=Lib.hid (HR2.out.item hk3 hR hlt)
   have HK3:=Lib.hid (HK2.out.trans (hk3.item (B:=X) (Nat.le_refl _) hlt) (Nat.le_refl _))
   have hs3:X≤w3.heap.size:=by have:=hx3.top; have:=hx3.le; omega
   clear hx3 hk3 HX2 HR2 HK2
   obtain ⟨t',r',rfl⟩:=HR3.out.fin.cons
   cases hi:isT [101,108,115,101] (t' :: r')
   ·have HI3:=Lib.hid hi; clear hi
    go_wp2_with fail
    refine (dH R t' r' d [101,108,115,101] _ HR3.out).mono ?_; rintro e w4 ⟨rfl,hb4⟩; rw [HI3.out]
    have HR4:=Lib.hid (HR3.out.below hb4 HR3.out.lt.1)
    have HX4:=Lib.hid (HX3.out.keep (.of hb4) (Nat.le_refl _) hR)
    have HK4:=Lib.hid (HK3.out.below hb4 hs3)
    clear hb4
    go_wp2_with fail
    go_end0
    exact OutB.ok (by rw [HU2.out,HI3.out,if_neg (by simp)]; rfl) HK4.out HR4.out ⟨rfl,_,HX4.out⟩
   ·have HI3:=Lib.hid hi; clear hi
    have HU3:Hid (bI (f+1) d a ts=match aH f d r' with
     | .error e=>.error e
     | .ok (c,ts3)=>.ok (.mk 9 [] 0 a [x,b,c],ts3)):=Lib.hid (by
     rw [HU2.out,HI3.out,if_pos rfl]; rfl)
    go_wp2_with fail
    refine (dH R t' r' d [101,108,115,101] _ HR3.out).mono ?_; rintro e w4 ⟨rfl,hb4⟩; rw [HI3.out]
    have HR4:=Lib.hid (HR3.out.below hb4 HR3.out.lt.1)
    have HX4:=Lib.hid (HX3.out.keep (.of hb4) (Nat.le_refl _) hR)
    have HK4:=Lib.hid (HK3.out.below hb4 hs3)
    have hs4:X≤w4.heap.size:=Nat.le_trans hs3 hb4.size
    have hs34:=hb4.size
    clear hb4
    go_wp2_with fail
    refine (dN (x:=[101,108,115,101]) HR4.out HI3.out).mono ?_; rintro e w5 ⟨rfl,hr5,hk5⟩
    have HR5:=Lib.hid hr5
    have HX5:=Lib.hid ((HX4.out.keep hk5 hs34 hR).grow (C':=w5.heap.size) (by have:=hk5.size; omega) (Nat.le_refl _))
    have HK5:=Lib.hid (HK4.out.trans hk5 hs4)
    have hs5:X≤w5.heap.size:=Nat.le_trans hs4 hk5.size
    have hs45:=hk5.size
    clear hr5 hk5
    go_wp2_with fail
    refine (IH.out w5 r' HR5.out (by have:=HL1.out; have:=HL2.out; simp only [List.length_cons] at this; omega) (fun hc=>HNE.out (by rw [HU3.out,hc]))).mono ?_
    rintro e w6 ho
    cases hW:aH f d r' with
    | error q =>
     obtain ⟨p,er⟩:=q
     rw [hW] at ho
     obtain ⟨rfl,hk6⟩:=ho.no
     exact⟨rfl,OutB.err (by rw [HU3.out,hW]) (HK5.out.trans hk6 hs5)⟩
    | ok q =>
     obtain ⟨c,ts3⟩:=q
     rw [hW] at ho
     obtain ⟨q3,rfl,hi6,hr6,hk6⟩:=ho.yes
     have HU4:Hid (bI (f+1) d a ts=.ok (.mk 9 [] 0 a [x,b,c],ts3)):=Lib.hid (by rw [HU3.out,hW])
     have HI6:=Lib.hid (hi6.alloc (.cells #[.pointer (some ⟨q3,0,none⟩)] 93))
     have HX6:=Lib.hid ((HX5.out.keep hk6 (Nat.le_refl _) hR).alloc (.cells #[.pointer (some ⟨q3,0,none⟩)] 93))
     have HR6:=Lib.hid (hr6.alloc (.cells #[.pointer (some ⟨q3,0,none⟩)] 93))
     have HK6:=Lib.hid ((HK5.out.trans hk6 hs5).alloc (by have:=hk6.size; omega) (.cells #[.pointer (some ⟨q3,0,none⟩)] 93))
     clear hW hi6 hr6 hk6 HU3
     go_wp2_with fail
     refine (fG X L w5.heap.size w6.heap.size 1 9 a [] 0 [x,b] [c] [q3] _ HX6.out (Blk.new w6 93 _) (KidsAt.one HI6.out) rfl (by omega) (by simp)).mono ?_
     rintro e w7 ⟨rfl,hx7,hk7⟩
     have HX7:=Lib.hid hx7
     have HR7:=Lib.hid (HR6.out.item hk7 hR hlt)
     have HK7:=Lib.hid (HK6.out.trans (hk7.item (B:=X) (Nat.le_refl _) hlt) (Nat.le_refl _))
     clear hx7 hk7
     go_wp2_with fail
     go_end0
     exact OutB.ok HU4.out HK7.out HR7.out ⟨rfl,_,HX7.out⟩
end Go.Proofs.YtkkeocnnecegbaaGreatDoor
namespace Go.Proofs.YtkkeocnnecegbaaGreatDoor
open Go.RowKit
def jS (X:Nat) (y:Item) (v:Value) (w':World):Prop:=v=.tuple #[]∧dx w' (fun j=>X≤j) X y
theorem nV.toS {X L:Nat} {y:Item} {v:Value} {w':World} (h:nV X L y v w'):jS X y v w':=by
 obtain ⟨rfl,C,hx⟩:=h; exact⟨rfl,hx.close⟩
theorem OutB.imp {α:Type} {B R d:Nat} {w:World} {res:Except aY (α×List Tok)} {P P':α→Value→World→Prop} {e:Ending} {w':World} (h:OutB B w R d res P e w') (hp:∀ a v,P a v w'→P' a v w'):OutB B w R d res P' e w':=by
 obtain ⟨hk,h⟩:=h
 refine⟨hk,?_⟩
 cases res with
 | error q=>exact h
 | ok q =>
  obtain ⟨hr,v,he,hv⟩:=h
  exact⟨hr,v,he,hp _ _ hv⟩
theorem vW (f R d X a:Nat) (ts:List Tok) (w:World) (h:RD w R ts d) (hx:Blk w X 160 #[.int .u8 (7:Nat),.string ⟨([]:List UInt8).toArray⟩,.int .i64 0,.int .i64 a,.slice none 0 0,.slice none 0 0]) (_hR:R<X) (hk:aj ts≠1) :
  Calls Tryz.prog 186 #[.pointer (some ⟨R,0,none⟩),.pointer (some ⟨X,0,none⟩)] w (OutB X w R d (bH f d ts) (jS X)):=by
 obtain ⟨t,r,rfl⟩:=h.fin.cons
 have HU:Hid (bH f d (t :: r)=.error (t.at',140)):=Lib.hid (by unfold bH aM; rw [if_neg hk]; rfl)
 have hlX:=hx.lt
 have hRw:=h.lt.1
 have HR:=Lib.hid ((h.alloc (.cells #[.pointer (some ⟨R,0,none⟩)] 90)).alloc (.cells #[.pointer (some ⟨X,0,none⟩)] 93)).drew
 have HK:=Lib.hid (show t.kind≠1 from hk)
 have cx:((w.alloc (.cells #[.pointer (some ⟨R,0,none⟩)] 90)).alloc (.cells #[.pointer (some ⟨X,0,none⟩)] 93)).cell? ⟨w.heap.size+1,0,none⟩=some (.pointer (some ⟨X,0,none⟩)):=by
  have:=(Blk.new (w.alloc (.cells #[.pointer (some ⟨R,0,none⟩)] 90)) 93 #[.pointer (some ⟨X,0,none⟩)]).cell 0
  simp
 have cr:((w.alloc (.cells #[.pointer (some ⟨R,0,none⟩)] 90)).alloc (.cells #[.pointer (some ⟨X,0,none⟩)] 93)).cell? ⟨w.heap.size,0,none⟩=some (.pointer (some ⟨R,0,none⟩)):=((Blk.new w 90 #[.pointer (some ⟨R,0,none⟩)]).alloc _).cell 0
 have HKW:Hid (au X R w ((w.alloc (.cells #[.pointer (some ⟨R,0,none⟩)] 90)).alloc (.cells #[.pointer (some ⟨X,0,none⟩)] 93))):=Lib.hid (((au.refl X R w).alloc (by omega) _).alloc (by simp; omega) _)
 clear h hx hk
 go_enter Tryz.func186,Tryz.ntmps186
 go_wp2_with fail
 generalize hWW:((w.alloc (.cells #[.pointer (some ⟨R,0,none⟩)] 90)).alloc (.cells #[.pointer (some ⟨X,0,none⟩)] 93))=W at *
 clear hWW
 refine wp_region_held_drew (S:=fun w'=>w'.cell? ⟨w.heap.size+1,0,none⟩=some (.pointer (some ⟨X,0,none⟩))∧w'.cell? ⟨w.heap.size,0,none⟩=some (.pointer (some ⟨R,0,none⟩))) (by kernel_rfl) ⟨cx,cr⟩ (fun hS=>?_)
 refine wpAnyH_take (i:=0) (v:=.pointer (some ⟨X,0,none⟩)) rfl (by kernel_rfl) (by kernel_rfl) (by kernel_rfl) (fun _ _ _ h=>h) (Or.inl ⟨by rfl,?_⟩) hS ?_
 ·intro W hW
  go_simp
 simp only [Act.put,List.setIfInBounds_toArray]
 refine wpAnyH_take (i:=1) (v:=.pointer (some ⟨R,0,none⟩)) rfl (by kernel_rfl) (by kernel_rfl) (by kernel_rfl) (fun _ _ _ h=>h) (Or.inl ⟨by rfl,?_⟩) hS ?_
 ·intro W hW
  go_simp
 simp only [Act.put]
 refine wpAnyH_ready (rs:=[2]) (by kernel_rfl) (by simp) ?_
 refine AllReadyH.cons rfl (fun K hK=>?_) .nil
 go_simp
 refine (jH HR.out HK.out).mono ?_
 rintro e w2 ⟨rfl,hb2⟩
 exact⟨rfl,OutB.err HU.out ((HKW.out).trans (au.fD (.of hb2)) (by have:=HKW.out.size; show X≤W.heap.size; omega))⟩
theorem Gs (cap:Array Value) (W:World):(callFunc 212 cap).run Tryz.prog W=.ok (.enter 212 cap) W:=by kernel_rfl
theorem assign_name (f R d X:Nat) (t:Tok) (r:List Tok) (w:World) (h:RD w R (t :: r) d) (hx:Blk w X 160 #[.int .u8 (7:Nat),.string ⟨([]:List UInt8).toArray⟩,.int .i64 0,.int .i64 t.at',.slice none 0 0,.slice none 0 0]) (hR:R<X) (hk:t.kind=1) (hd:d≤64) (hne:bH f d (t :: r)≠.error aI) :
  Calls Tryz.prog 186 #[.pointer (some ⟨R,0,none⟩),.pointer (some ⟨X,0,none⟩)] w (OutB X w R d (bH f d (t :: r)) (jS X)):=by
 have hnm:aM (t :: r)=.ok (t.text,r):=by unfold aM; rw [if_pos (show aj (t :: r)=1 from hk)]; rfl
 have HUy:Hid (isT [91] r=true→bH f d (t :: r)=match withinR [91] [93] d (binS f 1 (d+1)) r with
  | .error e=>.error e
  | .ok (x,ts4)=>match af [61] ts4 with
   | .error e=>.error e
   | .ok ts5=>kZ (fun y=>.mk 8 t.text 0 t.at' ([x] ++ [y])) (bA f d ts5)):=Lib.hid (by
  intro hi
  unfold bH withinR
  rw [hnm]; simp only []
  rw [if_pos hi]
  cases aR [91] d r with
  | error e=>rfl
  | ok ts2 =>
   simp only []
   cases binS f 1 (d+1) ts2 with
   | error e=>rfl
   | ok v =>
    obtain ⟨x,ts3⟩:=v
    simp only []
    rw [if_neg (by simp)]
    cases af [93] ts3 with
    | error e=>rfl
    | ok ts4 =>
     simp only []
     cases af [61] ts4 with
     | error e=>rfl
     | ok ts5 =>
      simp only []
      cases bA f d ts5 <;> rfl)
 have HUn:Hid (isT [91] r=false→bH f d (t :: r)=match af [61] r with
  | .error e=>.error e
  | .ok ts5=>kZ (fun y=>.mk 7 t.text 0 t.at' ([] ++ [y])) (bA f d ts5)):=Lib.hid (by
  intro hi
  unfold bH
  rw [hnm]; simp only []
  rw [if_neg (by rw [hi]; simp)]
  cases af [61] r with
  | error e=>rfl
  | ok ts5 =>
   simp only []
   cases bA f d ts5 <;> rfl)
 have hlX:=hx.lt
 have hRw:=h.lt.1
 have HR:=Lib.hid ((h.alloc (.cells #[.pointer (some ⟨R,0,none⟩)] 90)).alloc (.cells #[.pointer (some ⟨X,0,none⟩)] 93)).drew
 have HK:=Lib.hid hk; have HNE:=Lib.hid hne
 have HBX:Hid (Blk ((w.alloc (.cells #[.pointer (some ⟨R,0,none⟩)] 90)).alloc (.cells #[.pointer (some ⟨X,0,none⟩)] 93)) (w.heap.size+1) 93 #[.pointer (some ⟨X,0,none⟩)]):=Lib.hid (by
  have:=Blk.new (w.alloc (.cells #[.pointer (some ⟨R,0,none⟩)] 90)) 93 #[.pointer (some ⟨X,0,none⟩)]
  simpa using this)
 have HBR:Hid (Blk ((w.alloc (.cells #[.pointer (some ⟨R,0,none⟩)] 90)).alloc (.cells #[.pointer (some ⟨X,0,none⟩)] 93)) w.heap.size 90 #[.pointer (some ⟨R,0,none⟩)]):=Lib.hid ((Blk.new w 90 #[.pointer (some ⟨R,0,none⟩)]).alloc _)
 have HXX:=Lib.hid ((hx.alloc (.cells #[.pointer (some ⟨R,0,none⟩)] 90)).alloc (.cells #[.pointer (some ⟨X,0,none⟩)] 93))
 have HKW:Hid (au X R w ((w.alloc (.cells #[.pointer (some ⟨R,0,none⟩)] 90)).alloc (.cells #[.pointer (some ⟨X,0,none⟩)] 93))):=Lib.hid (((au.refl X R w).alloc (by omega) _).alloc (by simp; omega) _)
 have hsW:w.heap.size+2=((w.alloc (.cells #[.pointer (some ⟨R,0,none⟩)] 90)).alloc (.cells #[.pointer (some ⟨X,0,none⟩)] 93)).heap.size:=by simp
 clear h hx hk hnm hne
 go_enter Tryz.func186,Tryz.ntmps186
 go_wp2_with fail
 have HSW:=Lib.hid hsW
 clear hsW
 generalize ((w.alloc (.cells #[.pointer (some ⟨R,0,none⟩)] 90)).alloc (.cells #[.pointer (some ⟨X,0,none⟩)] 93))=W at *
 have cx:W.cell? ⟨w.heap.size+1,0,none⟩=some (.pointer (some ⟨X,0,none⟩)):=HBX.out.cell 0
 have cr:W.cell? ⟨w.heap.size,0,none⟩=some (.pointer (some ⟨R,0,none⟩)):=HBR.out.cell 0
 have n1:¬ w.heap.size+1=X:=by omega
 have n2:¬ X=w.heap.size:=by omega
 have n3:¬ w.heap.size=X:=by omega
 have n4:¬ X=w.heap.size+1:=by omega
 have CALL:Hid (∀ W,RD W R (t :: r) d→Calls Tryz.prog 91 #[.pointer (some ⟨R,0,none⟩)] W fun e w'=>e=.returned (.string ⟨t.text.toArray⟩)∧RD w' R r d∧au W.heap.size R W w'):=Lib.hid (fun W hW=>gI hW HK.out)
 have lW:w.heap.size+1<W.heap.size:=HBX.out.lt
 have HBXd:Hid (Blk W.drew (w.heap.size+1) 93 _):=HBX
 have HBRd:Hid (Blk W.drew w.heap.size 90 _):=HBR
 have HXXd:Hid (Blk W.drew X 160 #[.int .u8 (7:Nat),.string ⟨([]:List UInt8).toArray⟩,.int .i64 0,.int .i64 t.at',.slice none 0 0,.slice none 0 0]):=HXX
 go_region_held3 (fun w'=>w'.cell? ⟨w.heap.size+1,0,none⟩=some (.pointer (some ⟨X,0,none⟩))∧w'.cell? ⟨w.heap.size,0,none⟩=some (.pointer (some ⟨R,0,none⟩)))
  (first | go_keep)
  (first
   | (go_at_call 91; refine (CALL.out _ HR.out).mono ?_; rintro e w4 ⟨rfl,hr4,hk4⟩; have b1:=HBXd.out.kept hk4 (by exact lW) (by omega); have b2:=HBRd.out.kept hk4 (by show w.heap.size<W.heap.size; omega) (by omega); have b3:=HXXd.out.kept hk4 (by show X<W.heap.size; omega) (by omega); have e1:w4.cell? ⟨w.heap.size,0,none⟩=some (.pointer (some ⟨R,0,none⟩)):=b2.cell 0; have e2:w4.cell? ⟨w.heap.size+1,0,none⟩=some (.pointer (some ⟨X,0,none⟩)):=b1.cell 0; have e6:w4.cell? ⟨X,1,none⟩=some (.string ⟨([]:List UInt8).toArray⟩):=b3.cell 1; have e7:=b3.free 1; have HBX4:=Lib.hid b1; have HBR4:=Lib.hid b2; have HX4:=Lib.hid b3; have HR4:=Lib.hid hr4; have HK4:=Lib.hid (HKW.out.trans (au.fD hk4) (by show X≤W.heap.size; omega)); have hs4:W.heap.size≤w4.heap.size:=hk4.size; clear b1 b2 b3 hr4 hk4))
 have HB:Hid (iN (w.heap.size+1) w.heap.size X (w.heap.size+2) R):=Lib.hid ⟨by omega,by omega,by omega,by omega,by omega,by omega,by omega⟩
 have HQ5:Hid (bX (w.heap.size+1) w.heap.size X (w.heap.size+2) R 7 t.text 0 t.at' [] (w4.setCell ⟨X,1,none⟩ (.string ⟨t.text.toArray⟩))):=Lib.hid ⟨HBX4.out.far n1 1 _,HBR4.out.far n3 1 _,_,(aO.new HX4.out (by omega) (by have:=HSW.out; omega)).text t.text⟩
 have HR5:=Lib.hid (HR4.out.set (p:=⟨X,1,none⟩) hR (.string ⟨t.text.toArray⟩))
 have HK5:=Lib.hid (HK4.out.setCell (p:=⟨X,1,none⟩) (Or.inr (Nat.le_refl _)) (.string ⟨t.text.toArray⟩))
 generalize w4.setCell ⟨X,1,none⟩ (.string ⟨t.text.toArray⟩)=W5 at *
 clear e1 e2 e6 e7 cx cr HBX4 HBR4 HX4 HR4 HK4 HBX HBR HXX HBXd HBRd HXXd hs4
 have e1:W5.cell? ⟨w.heap.size,0,none⟩=some (.pointer (some ⟨R,0,none⟩)):=HQ5.out.br.cell 0
 have hs5:X≤W5.heap.size:=by have:=HK5.out.size; omega
 obtain ⟨t1,r1,hr1⟩:=HR5.out.fin.cons
 have HT1:=Lib.hid hr1; clear hr1
 cases hib:isT [91] r
 ·have HIB:=Lib.hid hib; clear hib
  have HUa:=Lib.hid (HUn.out HIB.out)
  go_wp2_with fail
  refine (dH R t1 r1 d [91] _ (by rw [← HT1.out]; exact HR5.out)).mono ?_; rintro e Wa ⟨rfl,hba⟩; rw [← HT1.out,HIB.out]
  have HQa:=Lib.hid (HQ5.out.keep HB.out (.of hba))
  have HRa:=Lib.hid (HR5.out.below hba HR5.out.lt.1)
  have HKa:=Lib.hid (HK5.out.below hba hs5)
  clear hba e1
  have e1:Wa.cell? ⟨w.heap.size,0,none⟩=some (.pointer (some ⟨R,0,none⟩)):=HQa.out.br.cell 0
  obtain ⟨t2,r2,hr2⟩:=HRa.out.fin.cons
  have HT2:=Lib.hid hr2; clear hr2
  have hsa:X≤Wa.heap.size:=by have:=HKa.out.size; omega
  cases hi:isT [61] (t2 :: r2)
  ·have HI:=Lib.hid hi; clear hi
   go_wp2_with fail
   refine (eX (x:=[61]) (t:=t2) (r:=r2) (by rw [← HT2.out]; exact HRa.out) HI.out).mono ?_; rintro e w9 ⟨rfl,hb9⟩
   go_wp2_with fail
   refine⟨rfl,OutB.err ?_ (HKa.out.below hb9 hsa)⟩
   rw [HUa.out,HT2.out]; unfold af; rw [HI.out]; rfl
  ·have HI:=Lib.hid hi; clear hi
   have HUb:Hid (bH f d (t :: r)=kZ (fun y=>.mk 7 t.text 0 t.at' ([] ++ [y])) (bA f d r2)):=Lib.hid (by rw [HUa.out,HT2.out]; unfold af; rw [HI.out]; rfl)
   go_wp2_with fail
   refine (dN (x:=[61]) (t:=t2) (r:=r2) (by rw [← HT2.out]; exact HRa.out) HI.out).mono ?_; rintro e w9 ⟨rfl,hr9,hk9⟩
   have HQ9:=Lib.hid (HQa.out.keep HB.out hk9)
   have HR9:=Lib.hid hr9
   have HK9:=Lib.hid (HKa.out.trans hk9 hsa)
   have y1:w9.cell? ⟨w.heap.size+1,0,none⟩=some (.pointer (some ⟨X,0,none⟩)):=HQ9.out.bx.cell 0
   have y2:w9.cell? ⟨w.heap.size,0,none⟩=some (.pointer (some ⟨R,0,none⟩)):=HQ9.out.br.cell 0
   obtain ⟨C9,hx9⟩:=HQ9.out.it
   have HX9:=Lib.hid hx9
   clear hr9 hk9 hx9
   go_wp2_with fail
   refine (ends_any f R d X (w.heap.size+2) C9 7 t.at' t.text 0 [] r2 w9 HR9.out HX9.out hR hd (by simp) (fun hc=>HNE.out (by rw [HUb.out,hc]; rfl))).mono ?_
   rintro e w10 ho
   have ho:=ho.imp (P':=jS X) (fun _ _ h=>h.toS)
   obtain ⟨hk10,ho⟩:=ho
   have HK10:=Lib.hid (HK9.out.trans hk10 (Nat.le_refl _))
   rw [← HUb.out] at ho
   cases hW:bH f d (t :: r) with
   | error q =>
    obtain ⟨p,er⟩:=q
    rw [hW] at ho
    subst ho
    exact⟨rfl,OutB.err rfl HK10.out⟩
   | ok q =>
    obtain ⟨y,ts3⟩:=q
    rw [hW] at ho
    obtain ⟨hr10,v,rfl,rfl,hx10⟩:=ho
    have HR10:=Lib.hid hr10
    have HX10:=Lib.hid hx10
    have HW:=Lib.hid hW
    clear hr10 hx10 hk10 hW y1 y2
    go_wp2_with fail
    go_end0
    exact OutB.ok HW.out HK10.out HR10.out ⟨rfl,HX10.out⟩
 ·have HIB:=Lib.hid hib; clear hib
  have HUw:=Lib.hid (HUy.out HIB.out)
  go_wp2_with fail
  refine (dH R t1 r1 d [91] _ (by rw [← HT1.out]; exact HR5.out)).mono ?_; rintro e w6 ⟨rfl,hb6⟩; rw [← HT1.out,HIB.out]
  have HQ6:=Lib.hid (HQ5.out.keep HB.out (.of hb6))
  have HR6:=Lib.hid (HR5.out.below hb6 HR5.out.lt.1)
  have HK6:=Lib.hid (HK5.out.below hb6 hs5)
  clear hb6 e1
  have e2:w6.cell? ⟨w.heap.size+1,0,none⟩=some (.pointer (some ⟨X,0,none⟩)):=HQ6.out.bx.cell 0
  have e1:w6.cell? ⟨w.heap.size,0,none⟩=some (.pointer (some ⟨R,0,none⟩)):=HQ6.out.br.cell 0
  obtain ⟨C6,hx6⟩:=HQ6.out.it
  obtain ⟨vv,bb⟩:=hx6.blk
  have e3:w6.cell? ⟨X,0,none⟩=some (.int .u8 (7:Nat)):=bb.cell 0
  have e4:=bb.free 0
  have HX6:=Lib.hid hx6
  clear bb hx6
  go_upto_region 4 with fail
  have HQ7:Hid (bX (w.heap.size+1) w.heap.size X (w.heap.size+2) R 8 t.text 0 t.at' [] (w6.setCell ⟨X,0,none⟩ (.int .u8 (8:Nat)))):=Lib.hid ⟨HQ6.out.bx.far n1 0 _,HQ6.out.br.far n3 0 _,_,HX6.out.kind 8⟩
  have HR7:=Lib.hid (HR6.out.set (p:=⟨X,0,none⟩) hR (.int .u8 (8:Nat)))
  have HK7:=Lib.hid (HK6.out.setCell (p:=⟨X,0,none⟩) (Or.inr (Nat.le_refl _)) (.int .u8 (8:Nat)))
  have hc8:(Value.int .u8 8)=.int .u8 ((8:Nat):Int):=rfl
  rw [hc8]
  clear hc8 e1 e2 e3 e4
  generalize w6.setCell ⟨X,0,none⟩ (.int .u8 ((8:Nat):Int))=W7 at *
  have e1:W7.cell? ⟨w.heap.size,0,none⟩=some (.pointer (some ⟨R,0,none⟩)):=HQ7.out.br.cell 0
  have hs7:X≤W7.heap.size:=by have:=HK7.out.size; omega
  go_wp2_with fail
  refine (ji (α:=Item) X R d 212 [91] [93] #[.pointer (some ⟨w.heap.size+1,0,none⟩),.pointer (some ⟨w.heap.size,0,none⟩)] r W7 (binS f 1 (d+1)) (fun x _ w'=>bX (w.heap.size+1) w.heap.size X (w.heap.size+2) R 8 t.text 0 t.at' [x] w') HR7.out hd hs7 (Gs _) ?hF ?hP).mono ?_
  case hF =>
   intro ts1 w8 hop hr8 hk8
   obtain ⟨hdd,_⟩:=rY hop
   have hne1:binS f 1 (d+1) ts1≠.error aI:=by
    intro hc
    apply HNE.out
    rw [HUw.out]; unfold withinR; rw [hop]; simp only []; rw [hc]
   exact Cs X _ _ X (w.heap.size+2) R (d+1) 8 t.at' t.text 0 [] (binS f 1 (d+1) ts1) ts1 w8 (HQ7.out.keep HB.out hk8) HB.out hr8 (Nat.le_refl _) (by simp) (fun W hW=>nL f R (d+1) ts1 W hW (by omega) hne1)
  case hP=>intro a wa wb ha hk; exact ha.keep HB.out hk
  rintro e Wa ⟨hka,ho⟩
  have HKa:=Lib.hid (HK7.out.trans hka (Nat.le_refl _))
  cases hW:withinR [91] [93] d (binS f 1 (d+1)) r with
  | error q =>
   obtain ⟨p,er⟩:=q
   rw [hW] at ho
   subst ho
   refine⟨rfl,OutB.err ?_ HKa.out⟩
   rw [HUw.out,hW]
  | ok q =>
   obtain ⟨x,rr⟩:=q
   rw [hW] at ho
   obtain ⟨hra,v,rfl,hqa⟩:=ho
   have HRa:=Lib.hid hra
   have HQa:=Lib.hid hqa
   have HUa:Hid (bH f d (t :: r)=match af [61] rr with
    | .error e=>.error e
    | .ok ts5=>kZ (fun y=>.mk 8 t.text 0 t.at' ([x] ++ [y])) (bA f d ts5)):=Lib.hid (by rw [HUw.out,hW])
   clear hW hra hqa hka e1
   have e1:Wa.cell? ⟨w.heap.size,0,none⟩=some (.pointer (some ⟨R,0,none⟩)):=HQa.out.br.cell 0
   obtain ⟨t2,r2,hr2⟩:=HRa.out.fin.cons
   have HT2:=Lib.hid hr2; clear hr2
   have hsa:X≤Wa.heap.size:=by have:=HKa.out.size; omega
   cases hi:isT [61] (t2 :: r2)
   ·have HI:=Lib.hid hi; clear hi
    go_wp2_with fail
    refine (eX (x:=[61]) (t:=t2) (r:=r2) (by rw [← HT2.out]; exact HRa.out) HI.out).mono ?_; rintro e w9 ⟨rfl,hb9⟩
    go_wp2_with fail
    refine⟨rfl,OutB.err ?_ (HKa.out.below hb9 hsa)⟩
    rw [HUa.out,HT2.out]; unfold af; rw [HI.out]; rfl
   ·have HI:=Lib.hid hi; clear hi
    have HUb:Hid (bH f d (t :: r)=kZ (fun y=>.mk 8 t.text 0 t.at' ([x] ++ [y])) (bA f d r2)):=Lib.hid (by rw [HUa.out,HT2.out]; unfold af; rw [HI.out]; rfl)
    go_wp2_with fail
    refine (dN (x:=[61]) (t:=t2) (r:=r2) (by rw [← HT2.out]; exact HRa.out) HI.out).mono ?_; rintro e w9 ⟨rfl,hr9,hk9⟩
    have HQ9:=Lib.hid (HQa.out.keep HB.out hk9)
    have HR9:=Lib.hid hr9
    have HK9:=Lib.hid (HKa.out.trans hk9 hsa)
    have y1:w9.cell? ⟨w.heap.size+1,0,none⟩=some (.pointer (some ⟨X,0,none⟩)):=HQ9.out.bx.cell 0
    have y2:w9.cell? ⟨w.heap.size,0,none⟩=some (.pointer (some ⟨R,0,none⟩)):=HQ9.out.br.cell 0
    obtain ⟨C9,hx9⟩:=HQ9.out.it
    have HX9:=Lib.hid hx9
    clear hr9 hk9 hx9
    go_wp2_with fail
    refine (ends_any f R d X (w.heap.size+2) C9 8 t.at' t.text 0 [x] r2 w9 HR9.out HX9.out hR hd (by simp) (fun hc=>HNE.out (by rw [HUb.out,hc]; rfl))).mono ?_
    rintro e w10 ho
    have ho:=ho.imp (P':=jS X) (fun _ _ h=>h.toS)
    obtain ⟨hk10,ho⟩:=ho
    have HK10:=Lib.hid (HK9.out.trans hk10 (Nat.le_refl _))
    rw [← HUb.out] at ho
    cases hW:bH f d (t :: r) with
    | error q =>
     obtain ⟨p,er⟩:=q
     rw [hW] at ho
     subst ho
     exact⟨rfl,OutB.err rfl HK10.out⟩
    | ok q =>
     obtain ⟨y,ts3⟩:=q
     rw [hW] at ho
     obtain ⟨hr10,v,rfl,rfl,hx10⟩:=ho
     have HR10:=Lib.hid hr10
     have HX10:=Lib.hid hx10
     have HW:=Lib.hid hW
     clear hr10 hx10 hk10 hW y1 y2
     go_wp2_with fail
     go_end0
     exact OutB.ok HW.out HK10.out HR10.out ⟨rfl,HX10.out⟩
end Go.Proofs.YtkkeocnnecegbaaGreatDoor
