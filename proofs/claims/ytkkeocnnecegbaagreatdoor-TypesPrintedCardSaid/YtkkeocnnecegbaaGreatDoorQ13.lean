/- Joint text: PwN, PwO. By an AI agent. -/
import Derived.Test.YtkkeocnnecegbaaGreatDoorQ12
import Derived.WideMake
set_option linter.all false
set_option maxRecDepth 100000
set_option maxHeartbeats 64000000
namespace Go.Proofs.YtkkeocnnecegbaaGreatDoor
open Go.RowKit
theorem G8 (cap:Array Value) (W:World):(callFunc 211 cap).run Tryz.prog W=.ok (.enter 211 cap) W:=by kernel_rfl
theorem Dw (f d:Nat) (b:Bool) (acc:List Item) (ts:List Tok):argsS (f+1) d b acc ts=listStep (binS f 1 d) (argsS f d) b acc ts:=by
 conv=>lhs; unfold argsS
 unfold listStep
 split
 ·rfl
 ·cases (if b=true then Except.ok ts else af [44] ts) with
  | error e=>rfl
  | ok ts1 =>
   simp only []
   cases binS f 1 d ts1 <;> rfl
theorem EK (d:Nat) (b:Bool) (acc:List Item) (ts:List Tok):argsS 0 d b acc ts=.error aI:=by unfold argsS; rfl
theorem yX (f R d X a:Nat) (ts:List Tok) (w:World) (h:RD w R ts d) (hx:Blk w X 160 #[.int .u8 (15:Nat),.string ⟨([]:List UInt8).toArray⟩,.int .i64 0,.int .i64 a,.slice none 0 0,.slice none 0 0]) (_hR:R<X) (hk:aj ts≠1) :
  Calls Tryz.prog 185 #[.pointer (some ⟨R,0,none⟩),.pointer (some ⟨X,0,none⟩)] w (OutB X w R d (callS f d a ts) (jS X)):=by
 obtain ⟨t,r,rfl⟩:=h.fin.cons
 have HU:Hid (callS f d a (t :: r)=.error (t.at',140)):=Lib.hid (by unfold callS aM; rw [if_neg hk]; rfl)
 have hlX:=hx.lt
 have hRw:=h.lt.1
 have HR:=Lib.hid ((h.alloc (.cells #[.pointer (some ⟨R,0,none⟩)] 90)).alloc (.cells #[.pointer (some ⟨X,0,none⟩)] 93)).drew
 have HK:=Lib.hid (show t.kind≠1 from hk)
 have cx:((w.alloc (.cells #[.pointer (some ⟨R,0,none⟩)] 90)).alloc (.cells #[.pointer (some ⟨X,0,none⟩)] 93)).cell? ⟨w.heap.size+1,0,none⟩=some (.pointer (some ⟨X,0,none⟩)):=by
  have:=(Blk.new (w.alloc (.cells #[.pointer (some ⟨R,0,none⟩)] 90)) 93 #[.pointer (some ⟨X,0,none⟩)]).cell 0
  simp
 have cr:((w.alloc (.cells #[.pointer (some ⟨R,0,none⟩)] 90)).alloc (.cells #[.pointer (some ⟨X,0,none⟩)] 93)).cell? ⟨w.heap.size,0,none⟩=some (.pointer (some ⟨R,0,none⟩)):=((Blk.new w 90 #[.pointer (some ⟨R,0,none⟩)]).alloc _).cell 0
 have HKW:Hid (au X R w ((w.alloc (.cells #[.pointer (some ⟨R,0,none⟩)] 90)).alloc (.cells #[.pointer (some ⟨X,0,none⟩)] 93))):=Lib.hid (((au.refl X R w).alloc (by omega) _).alloc (by simp; omega) _)
 clear h hx hk
 go_enter Tryz.func185,Tryz.ntmps185
 go_wp2_with fail
 generalize hWW:((w.alloc (.cells #[.pointer (some ⟨R,0,none⟩)] 90)).alloc (.cells #[.pointer (some ⟨X,0,none⟩)] 93))=W at *
 clear hWW
 refine wp_region_held_drew (S:=fun w'=>w'.cell? ⟨w.heap.size+1,0,none⟩=some (.pointer (some ⟨X,0,none⟩))∧w'.cell? ⟨w.heap.size,0,none⟩=some (.pointer (some ⟨R,0,none⟩))) (by kernel_rfl) ⟨cx,cr⟩ (fun hS=>?_)
 refine wpAnyH_take (i:=0) (v:=.pointer (some ⟨X,0,none⟩)) rfl (by kernel_rfl) (by kernel_rfl) (by kernel_rfl) (fun _ _ _ h=>h) (Or.inl ⟨by rfl,?_⟩) hS ?_
 ·intro W hW
  go_simp
 simp only [Act.put,List.setIfInBounds_toArray]
 refine wpAnyH_take (i:=1) (v:=.pointer (some ⟨R,0,none⟩)) rfl (by kernel_rfl) (by kernel_rfl) (by kernel_rfl) (fun _ _ _ h=>h) (Or.inl ⟨by rfl,?_⟩) hS ?_
 ·intro W hW
  go_simp
 simp only [Act.put]
 refine wpAnyH_ready (rs:=[2]) (by kernel_rfl) (by simp) ?_
 refine AllReadyH.cons rfl (fun K hK=>?_) .nil
 go_simp
 refine (jH HR.out HK.out).mono ?_
 rintro e w2 ⟨rfl,hb2⟩
 exact⟨rfl,OutB.err HU.out ((HKW.out).trans (au.fD (.of hb2)) (by have:=HKW.out.size; show X≤W.heap.size; omega))⟩
theorem call_name (f R d X a T:Nat) (t:Tok) (r:List Tok) (w:World) (h:RD w R (t :: r) d) (hx:Blk w X 160 #[.int .u8 (15:Nat),.string ⟨([]:List UInt8).toArray⟩,.int .i64 0,.int .i64 a,.slice none 0 0,.slice none 0 0]) (hR:R<X) (hk:t.kind=1) (hd:d≤64) (hT:(t :: r).length≤T) (hT2:T≤90000) (hne:callS f d a (t :: r)≠.error aI) :
  Calls Tryz.prog 185 #[.pointer (some ⟨R,0,none⟩),.pointer (some ⟨X,0,none⟩)] w (OutB X w R d (callS f d a (t :: r)) (jS X)):=by
 have hnm:aM (t :: r)=.ok (t.text,r):=by unfold aM; rw [if_pos (show aj (t :: r)=1 from hk)]; rfl
 have HU:Hid (callS f d a (t :: r)=match af [61] r with
  | .error e=>.error e
  | .ok ts2=>match aM ts2 with
   | .error e=>.error e
   | .ok (u,ts3)=>match listR (argsS f d true []) ts3 with
    | .error e=>.error e
    | .ok (l,ts6)=>match af [59] ts6 with
     | .error e=>.error e
     | .ok ts7=>.ok (.mk 15 t.text 0 a (.mk 16 u 0 (nowAt ts2) [] :: l),ts7)):=Lib.hid (by
  unfold callS listR
  rw [hnm]; simp only []
  cases af [61] r with
  | error e=>rfl
  | ok ts2 =>
   simp only []
   cases aM ts2 with
   | error e=>rfl
   | ok v =>
    obtain ⟨u,ts3⟩:=v
    simp only []
    cases af [40] ts3 with
    | error e=>rfl
    | ok ts4 =>
     simp only []
     cases argsS f d true [] ts4 with
     | error e=>rfl
     | ok v =>
      obtain ⟨l,ts5⟩:=v
      simp only []
      cases af [41] ts5 with
      | error e=>rfl
      | ok ts6 =>
       simp only []
       cases af [59] ts6 <;> rfl)
 have HT:=Lib.hid (show r.length+1≤T by simpa using hT)
 have hlX:=hx.lt
 have hRw:=h.lt.1
 have HR:=Lib.hid ((h.alloc (.cells #[.pointer (some ⟨R,0,none⟩)] 90)).alloc (.cells #[.pointer (some ⟨X,0,none⟩)] 93)).drew
 have HK:=Lib.hid hk; have HNE:=Lib.hid hne
 have HBX:Hid (Blk ((w.alloc (.cells #[.pointer (some ⟨R,0,none⟩)] 90)).alloc (.cells #[.pointer (some ⟨X,0,none⟩)] 93)) (w.heap.size+1) 93 #[.pointer (some ⟨X,0,none⟩)]):=Lib.hid (by
  have:=Blk.new (w.alloc (.cells #[.pointer (some ⟨R,0,none⟩)] 90)) 93 #[.pointer (some ⟨X,0,none⟩)]
  simpa using this)
 have HBR:Hid (Blk ((w.alloc (.cells #[.pointer (some ⟨R,0,none⟩)] 90)).alloc (.cells #[.pointer (some ⟨X,0,none⟩)] 93)) w.heap.size 90 #[.pointer (some ⟨R,0,none⟩)]):=Lib.hid ((Blk.new w 90 #[.pointer (some ⟨R,0,none⟩)]).alloc _)
 have HXX:=Lib.hid ((hx.alloc (.cells #[.pointer (some ⟨R,0,none⟩)] 90)).alloc (.cells #[.pointer (some ⟨X,0,none⟩)] 93))
 have HKW:Hid (au X R w ((w.alloc (.cells #[.pointer (some ⟨R,0,none⟩)] 90)).alloc (.cells #[.pointer (some ⟨X,0,none⟩)] 93))):=Lib.hid (((au.refl X R w).alloc (by omega) _).alloc (by simp; omega) _)
 have hsW:w.heap.size+2=((w.alloc (.cells #[.pointer (some ⟨R,0,none⟩)] 90)).alloc (.cells #[.pointer (some ⟨X,0,none⟩)] 93)).heap.size:=by simp
 clear h hx hk hnm hne hT
 go_enter Tryz.func185,Tryz.ntmps185
 go_wp2_with fail
 have HSW:=Lib.hid hsW
 clear hsW
 generalize ((w.alloc (.cells #[.pointer (some ⟨R,0,none⟩)] 90)).alloc (.cells #[.pointer (some ⟨X,0,none⟩)] 93))=W at *
 have cx:W.cell? ⟨w.heap.size+1,0,none⟩=some (.pointer (some ⟨X,0,none⟩)):=HBX.out.cell 0
 have cr:W.cell? ⟨w.heap.size,0,none⟩=some (.pointer (some ⟨R,0,none⟩)):=HBR.out.cell 0
 have n1:¬ w.heap.size+1=X:=by omega
 have n2:¬ X=w.heap.size:=by omega
 have n3:¬ w.heap.size=X:=by omega
 have n4:¬ X=w.heap.size+1:=by omega
 have CALL:Hid (∀ W,RD W R (t :: r) d→Calls Tryz.prog 91 #[.pointer (some ⟨R,0,none⟩)] W fun e w'=>e=.returned (.string ⟨t.text.toArray⟩)∧RD w' R r d∧au W.heap.size R W w'):=Lib.hid (fun W hW=>gI hW HK.out)
 have lW:w.heap.size+1<W.heap.size:=HBX.out.lt
 have HBXd:Hid (Blk W.drew (w.heap.size+1) 93 _):=HBX
 have HBRd:Hid (Blk W.drew w.heap.size 90 _):=HBR
 have HXXd:Hid (Blk W.drew X 160 #[.int .u8 (15:Nat),.string ⟨([]:List UInt8).toArray⟩,.int .i64 0,.int .i64 a,.slice none 0 0,.slice none 0 0]):=HXX
 go_region_held3 (fun w'=>w'.cell? ⟨w.heap.size+1,0,none⟩=some (.pointer (some ⟨X,0,none⟩))∧w'.cell? ⟨w.heap.size,0,none⟩=some (.pointer (some ⟨R,0,none⟩)))
  (first | go_keep)
  (first
   | (go_at_call 91; refine (CALL.out _ HR.out).mono ?_; rintro e w4 ⟨rfl,hr4,hk4⟩; have b1:=HBXd.out.kept hk4 (by exact lW) (by omega); have b2:=HBRd.out.kept hk4 (by show w.heap.size<W.heap.size; omega) (by omega); have b3:=HXXd.out.kept hk4 (by show X<W.heap.size; omega) (by omega); have e1:w4.cell? ⟨w.heap.size,0,none⟩=some (.pointer (some ⟨R,0,none⟩)):=b2.cell 0; have e2:w4.cell? ⟨w.heap.size+1,0,none⟩=some (.pointer (some ⟨X,0,none⟩)):=b1.cell 0; have e6:w4.cell? ⟨X,1,none⟩=some (.string ⟨([]:List UInt8).toArray⟩):=b3.cell 1; have e7:=b3.free 1; have HBX4:=Lib.hid b1; have HBR4:=Lib.hid b2; have HX4:=Lib.hid b3; have HR4:=Lib.hid hr4; have HK4:=Lib.hid (HKW.out.trans (au.fD hk4) (by show X≤W.heap.size; omega)); have hs4:W.heap.size≤w4.heap.size:=hk4.size; clear b1 b2 b3 hr4 hk4))
 have HB:Hid (iN (w.heap.size+1) w.heap.size X (w.heap.size+2) R):=Lib.hid ⟨by omega,by omega,by omega,by omega,by omega,by omega,by omega⟩
 have HQ5:Hid (bX (w.heap.size+1) w.heap.size X (w.heap.size+2) R 15 t.text 0 a [] (w4.setCell ⟨X,1,none⟩ (.string ⟨t.text.toArray⟩))):=Lib.hid ⟨HBX4.out.far n1 1 _,HBR4.out.far n3 1 _,_,(aO.new HX4.out (by omega) (by have:=HSW.out; omega)).text t.text⟩
 have HR5:=Lib.hid (HR4.out.set (p:=⟨X,1,none⟩) hR (.string ⟨t.text.toArray⟩))
 have HK5:=Lib.hid (HK4.out.setCell (p:=⟨X,1,none⟩) (Or.inr (Nat.le_refl _)) (.string ⟨t.text.toArray⟩))
 generalize w4.setCell ⟨X,1,none⟩ (.string ⟨t.text.toArray⟩)=W5 at *
 clear e1 e2 e6 e7 cx cr HBX4 HBR4 HX4 HR4 HK4 HBX HBR HXX HBXd HBRd HXXd hs4
 have e1:W5.cell? ⟨w.heap.size,0,none⟩=some (.pointer (some ⟨R,0,none⟩)):=HQ5.out.br.cell 0
 have hs5:X≤W5.heap.size:=by have:=HK5.out.size; omega
 obtain ⟨t1,r1,rfl⟩:=HR5.out.fin.cons
 cases hi:isT [61] (t1 :: r1)
 ·have HI:=Lib.hid hi; clear hi
  go_wp2_with fail
  refine (eX (x:=[61]) HR5.out HI.out).mono ?_; rintro e w6 ⟨rfl,hb6⟩
  go_wp2_with fail
  refine⟨rfl,OutB.err ?_ (HK5.out.below hb6 hs5)⟩
  rw [HU.out]; unfold af; rw [HI.out]; rfl
 have HI:=Lib.hid hi; clear hi
 have HU1:Hid (callS f d a (t :: t1 :: r1)=match aM r1 with
   | .error e=>.error e
   | .ok (u,ts3)=>match listR (argsS f d true []) ts3 with
    | .error e=>.error e
    | .ok (l,ts6)=>match af [59] ts6 with
     | .error e=>.error e
     | .ok ts7=>.ok (.mk 15 t.text 0 a (.mk 16 u 0 (nowAt r1) [] :: l),ts7)):=Lib.hid (by rw [HU.out]; unfold af; rw [HI.out,if_pos rfl]; rfl)
 clear HU
 go_wp2_with fail
 refine (dN (x:=[61]) HR5.out HI.out).mono ?_; rintro e w6 ⟨rfl,hr6,hk6⟩
 have hq6:=HQ5.out.keep HB.out hk6
 have HR6:=Lib.hid hr6
 have HK6:=Lib.hid (HK5.out.trans hk6 hs5)
 have hs6:X≤w6.heap.size:=Nat.le_trans hs5 hk6.size
 obtain ⟨hbx6,hbr6,C6,hit6⟩:=hq6
 have HIT6:=Lib.hid (hit6.grow hit6.top (Nat.le_refl _))
 have HBX6:=Lib.hid hbx6; have HBR6:=Lib.hid hbr6
 have hL6:w.heap.size+2≤w6.heap.size:=HIT6.out.le
 clear hr6 hk6 hbx6 hbr6 hit6 e1
 have e1:w6.cell? ⟨w.heap.size,0,none⟩=some (.pointer (some ⟨R,0,none⟩)):=HBR6.out.cell 0
 go_wp2_with fail
 refine (dX R d 16 r1 _ HR6.out).mono ?_; rintro e w7 ⟨N,rfl,hN,hbN,hb7⟩
 have HN:=Lib.hid hbN
 have HIT7:=Lib.hid (HIT6.out.keep (.of hb7) (Nat.le_refl _) hR)
 have HBX7:=Lib.hid (HBX6.out.below hb7)
 have HBR7:=Lib.hid (HBR6.out.below hb7)
 have HR7:=Lib.hid (HR6.out.below hb7 HR6.out.lt.1)
 have HK7:=Lib.hid (HK6.out.below hb7 hs6)
 have hs7:w6.heap.size≤w7.heap.size:=hb7.size
 clear hbN hb7 e1
 have e1:w7.cell? ⟨w.heap.size,0,none⟩=some (.pointer (some ⟨R,0,none⟩)):=HBR7.out.cell 0
 have lN:=HN.out.lt
 obtain ⟨t2,r2,rfl⟩:=HR7.out.fin.cons
 by_cases hk2:t2.kind=1
 ·have HK2:=Lib.hid hk2
  have HU2:Hid (callS f d a (t :: t1 :: t2 :: r2)=match listR (argsS f d true []) r2 with
    | .error e=>.error e
    | .ok (l,ts6)=>match af [59] ts6 with
     | .error e=>.error e
     | .ok ts7=>.ok (.mk 15 t.text 0 a ([.mk 16 t2.text 0 t2.at' []] ++ l),ts7)):=Lib.hid (by
   rw [HU1.out]
   unfold aM
   rw [if_pos (show aj (t2 :: r2)=1 from hk2)]
   rfl)
  clear hk2 HU1
  go_wp2_with fail
  refine (gI HR7.out HK2.out).mono ?_; rintro e w8 ⟨rfl,hr8,hk8⟩
  have hN8:=HN.out.kept hk8 lN (by omega)
  have g1:w8.cell? ⟨N,1,none⟩=some (.string ⟨([]:List UInt8).toArray⟩):=hN8.cell 1
  have g2:=hN8.free 1
  have hs8:w7.heap.size≤w8.heap.size:=hk8.size
  have nR:¬ w.heap.size=N:=by omega
  have nX:¬ w.heap.size+1=N:=by omega
  have HIN:=Lib.hid ((aO.fresh hN8).text t2.text)
  have it8:=HIT7.out.keep hk8 hs7 hR
  have HIT8:=Lib.hid (it8.keep ((au.refl w6.heap.size R w8).setCell (p:=⟨N,1,none⟩) (Or.inr hN) (.string ⟨t2.text.toArray⟩)) (Nat.le_refl _) hR)
  have HBX8:=Lib.hid ((HBX7.out.kept hk8 (by omega) (by omega)).far nX 1 (.string ⟨t2.text.toArray⟩))
  have HBR8:=Lib.hid ((HBR7.out.kept hk8 (by omega) (by omega)).far nR 1 (.string ⟨t2.text.toArray⟩))
  have HR8:=Lib.hid (hr8.set (p:=⟨N,1,none⟩) (show R<N by omega) (.string ⟨t2.text.toArray⟩))
  have HK8:=Lib.hid ((HK7.out.trans hk8 (by omega)).setCell (p:=⟨N,1,none⟩) (Or.inr (show X≤N by omega)) (.string ⟨t2.text.toArray⟩))
  clear hr8 hk8 hN8 it8
  go_upto_region 5 with fail
  have hz:w8.heap.size=(w8.setCell ⟨N,1,none⟩ (.string ⟨t2.text.toArray⟩)).heap.size:=by simp [World.setCell]
  have HZ:=Lib.hid hz
  clear hz
  generalize w8.setCell ⟨N,1,none⟩ (.string ⟨t2.text.toArray⟩)=W8 at *
  clear e1 g1 g2
  have e2:W8.cell? ⟨w.heap.size+1,0,none⟩=some (.pointer (some ⟨X,0,none⟩)):=HBX8.out.cell 0
  have e1:W8.cell? ⟨w.heap.size,0,none⟩=some (.pointer (some ⟨R,0,none⟩)):=HBR8.out.cell 0
  have hs8':w7.heap.size≤W8.heap.size:=by have:=HZ.out; omega
  have HKN:Hid (KidsAt (W8.alloc (.cells #[.pointer (some ⟨N,0,none⟩)] 93)) (fun j=>w6.heap.size≤j) [N] [.mk 16 t2.text 0 t2.at' []]):=Lib.hid (KidsAt.one ((HIN.out.close.alloc _).mono (fun j hj _=>by omega)))
  have HIT8a:=Lib.hid (HIT8.out.alloc (.cells #[.pointer (some ⟨N,0,none⟩)] 93))
  have HBX8a:=Lib.hid (HBX8.out.alloc (.cells #[.pointer (some ⟨N,0,none⟩)] 93))
  have HBR8a:=Lib.hid (HBR8.out.alloc (.cells #[.pointer (some ⟨N,0,none⟩)] 93))
  have HR8a:=Lib.hid (HR8.out.alloc (.cells #[.pointer (some ⟨N,0,none⟩)] 93))
  have HK8a:=Lib.hid (HK8.out.alloc (by omega) (.cells #[.pointer (some ⟨N,0,none⟩)] 93))
  go_wp2_with fail
  refine (fG X (w.heap.size+2) w6.heap.size W8.heap.size 1 15 a t.text 0 [] [.mk 16 t2.text 0 t2.at' []] [N] _ HIT8a.out (Blk.new W8 93 _) HKN.out rfl (by omega) (by simp)).mono ?_
  rintro e w9 ⟨rfl,hx9,hk9⟩
  have hXL:X<w.heap.size+2:=by omega
  have HQ9:Hid (bX (w.heap.size+1) w.heap.size X (w.heap.size+2) R 15 t.text 0 a ([.mk 16 t2.text 0 t2.at' []] ++ []) w9):=Lib.hid ⟨HBX8a.out.kept hk9 HB.out.x HB.out.xX,HBR8a.out.kept hk9 HB.out.r HB.out.rX,_,hx9⟩
  have HR9:=Lib.hid (HR8a.out.item hk9 hR hXL)
  have HK9:=Lib.hid (HK8a.out.trans (hk9.item (B:=X) (Nat.le_refl _) hXL) (Nat.le_refl _))
  have hs9:X≤w9.heap.size:=by have:=hx9.top; have:=hx9.le; omega
  clear hx9 hk9 e1 e2
  have e1:w9.cell? ⟨w.heap.size,0,none⟩=some (.pointer (some ⟨R,0,none⟩)):=HQ9.out.br.cell 0
  go_wp2_with fail
  refine (xV X R d 211 f T #[.pointer (some ⟨w.heap.size+1,0,none⟩),.pointer (some ⟨w.heap.size,0,none⟩)] (fun g=>binS g 1 d) (fun g=>argsS g d) (fun l w'=>bX (w.heap.size+1) w.heap.size X (w.heap.size+2) R 15 t.text 0 a ([.mk 16 t2.text 0 t2.at' []] ++ l) w') r2 w9 HR9.out hs9 (G8 _) (fun b acc ts=>EK d b acc ts) (fun g b acc ts=>Dw g d b acc ts) (fun g ts x r he hx=>(fE he hx).2) ?hT HQ9.out (fun l wa wb ha hk=>ha.keep HB.out hk) ?hF ?hN).mono ?_
  case hT=>have:=HT.out; simp only [List.length_cons] at this; omega
  case hF =>
   intro g ts1 wa acc hg hn hl hq hr hs
   have:=Bh X _ _ X (w.heap.size+2) R d 15 a t.text 0 ([.mk 16 t2.text 0 t2.at' []] ++ acc) (binS g 1 d ts1) ts1 wa hq HB.out hr (Nat.le_refl _) (by simp only [List.length_append,List.length_singleton]; omega) (fun W hW=>nL g R d ts1 W hW hd hn)
   simpa only [List.append_assoc] using this
  case hN =>
   intro hc
   apply HNE.out
   rw [HU2.out,hc]
  rintro e w10 ⟨hk10,ho⟩
  have HK10:=Lib.hid (HK9.out.trans hk10 (Nat.le_refl _))
  have hs10:X≤w10.heap.size:=Nat.le_trans hs9 hk10.size
  cases hW:listR (argsS f d true []) r2 with
  | error q =>
   obtain ⟨p,er⟩:=q
   rw [hW] at ho
   subst ho
   exact⟨rfl,OutB.err (by rw [HU2.out,hW]) HK10.out⟩
  | ok q =>
   obtain ⟨l,rr⟩:=q
   rw [hW] at ho
   obtain ⟨hr10,v,rfl,rfl,hq10⟩:=ho
   have HU3:Hid (callS f d a (t :: t1 :: t2 :: r2)=match af [59] rr with
     | .error e=>.error e
     | .ok ts7=>.ok (.mk 15 t.text 0 a ([.mk 16 t2.text 0 t2.at' []] ++ l),ts7)):=Lib.hid (by rw [HU2.out,hW])
   have HR10:=Lib.hid hr10
   have HQ10:=Lib.hid hq10
   clear hW hr10 hk10 hq10 e1
   have e1:w10.cell? ⟨w.heap.size,0,none⟩=some (.pointer (some ⟨R,0,none⟩)):=HQ10.out.br.cell 0
   obtain ⟨t3,r3,rfl⟩:=HR10.out.fin.cons
   cases hi:isT [59] (t3 :: r3)
   ·have HI3:=Lib.hid hi; clear hi
    go_wp2_with fail
    refine (eX (x:=[59]) HR10.out HI3.out).mono ?_; rintro e w11 ⟨rfl,hb11⟩
    go_wp2_with fail
    refine⟨rfl,OutB.err ?_ (HK10.out.below hb11 hs10)⟩
    rw [HU3.out]; unfold af; rw [HI3.out]; rfl
   ·have HI3:=Lib.hid hi; clear hi
    go_wp2_with fail
    refine (dN (x:=[59]) HR10.out HI3.out).mono ?_; rintro e w11 ⟨rfl,hr11,hk11⟩
    have HQ11:=Lib.hid (HQ10.out.keep HB.out hk11)
    have HR11:=Lib.hid hr11
    have HK11:=Lib.hid (HK10.out.trans hk11 hs10)
    clear hr11 hk11 e1
    go_wp2_with fail
    go_end0
    obtain ⟨C,hit⟩:=HQ11.out.it
    refine OutB.ok (x:=.mk 15 t.text 0 a ([.mk 16 t2.text 0 t2.at' []] ++ l)) (ts:=r3) ?_ HK11.out HR11.out ⟨rfl,hit.close⟩
    rw [HU3.out]; unfold af; rw [HI3.out]; rfl
 ·have HK2:=Lib.hid hk2
  have HU2:Hid (callS f d a (t :: t1 :: t2 :: r2)=.error (t2.at',140)):=Lib.hid (by
   rw [HU1.out]
   unfold aM
   rw [if_neg (show ¬ aj (t2 :: r2)=1 from hk2)]
   rfl)
  clear hk2
  go_wp2_with fail
  refine (jH HR7.out HK2.out).mono ?_; rintro e w8 ⟨rfl,hb8⟩
  go_wp2_with fail
  exact⟨rfl,OutB.err HU2.out (HK7.out.below hb8 (by omega))⟩
end Go.Proofs.YtkkeocnnecegbaaGreatDoor
namespace Go.Proofs.YtkkeocnnecegbaaGreatDoor
open Go.RowKit
def ent:Nat→List (List UInt8×Value)→List MapEntry
 | _,[]=>[]
 | i,(k,v) :: r=>{ key:=.string ⟨k.toArray⟩,val:=v,born:=i } :: ent (i+1) r
theorem wF (k:List UInt8) (v:Value):∀ (L:List (List UInt8×Value)) (i:Nat),ent i (L ++ [(k,v)])=ent i L ++ [{ key:=.string ⟨k.toArray⟩,val:=v,born:=i+L.length }]
 | [],i=>by simp [ent]
 | (a,b) :: r,i=>by
  show _ :: ent (i+1) (r ++ [(k,v)])=_
  rw [wF k v r (i+1)]
  simp only [ent,List.length_cons,List.cons_append]
  rw [show i+1+r.length=i+(r.length+1) by omega]
theorem Ha (a b:List UInt8):((⟨a.toArray⟩:ByteArray) == ⟨b.toArray⟩)=(a == b):=by
 rw [Bool.eq_iff_iff,MapKept.bytes_beq]
 simp
theorem qU (k:List UInt8):∀ (L:List (List UInt8×Value)) (i j:Nat),∃ a,Instr.findNow .string (.string ⟨k.toArray⟩) (ent i L) j=some a∧a.map (·.2)=L.lookup k
 | [],i,j=>⟨none,rfl,rfl⟩
 | (a,b) :: r,i,j=>by
  simp only [ent,Instr.findNow,Instr.sameNow,Ha]
  by_cases h:k=a
  ·subst h
   exact⟨some (j,b),by simp,by simp [List.lookup]⟩
  ·have h':(k == a)=false:=by simpa using h
   obtain ⟨x,h1,h2⟩:=qU k r (i+1) (j+1)
   rw [h']
   exact⟨x,h1,by simp only [List.lookup,h']; exact h2⟩
theorem pK (w:World) (o o':Obj):({ w.alloc o with heap:=(w.alloc o).heap.setIfInBounds w.heap.size o' }:World)=w.alloc o':=by
 have:(w.alloc o).heap.setIfInBounds w.heap.size o'=(w.alloc o').heap:=by
  apply Array.ext_getElem?
  intro i
  rw [Array.getElem?_setIfInBounds]
  show _=(w.heap.push o')[i]?
  by_cases hi:w.heap.size=i
  ·subst hi
   simp
  ·rw [if_neg hi]
   show (w.heap.push o)[i]? = _
   rw [Array.getElem?_push,Array.getElem?_push,if_neg (Ne.symm hi),if_neg (Ne.symm hi)]
 rw [this]; rfl
theorem jM (w:World) (L:List (List UInt8×Value)) (k:List UInt8) (v:Value) (n:Nat) (hn:L.length=n) (hk:L.lookup k=none) :
  (Instr.mapUpdate 248 (.map (some w.heap.size)) (.string ⟨k.toArray⟩) v).run Tryz.prog (w.alloc (.map (ent 0 L).toArray n))=.ok () (w.alloc (.map (ent 0 (L ++ [(k,v)])).toArray (n+1))):=by
 have hb:(w.alloc (.map (ent 0 L).toArray n)).heap[w.heap.size]? = some (.map (ent 0 L).toArray n):=heap_alloc_new w _
 obtain ⟨a,h1,h2⟩:=qU k L 0 0
 rw [hk] at h2
 have ha:a=none:=by cases a <;> simp_all
 subst ha
 have hc:(Instr.checkKey false 10000 9 (.string ⟨k.toArray⟩)).run Tryz.prog (w.alloc (.map (ent 0 L).toArray n))=.ok () _:=MapKept.run_checkKey (k:=.string ⟨k.toArray⟩) Tryz.underlying9 (by simp [MapKept.IsKey]) false 9999
 simp [Instr.mapUpdate,run_underlying Tryz.underlying248,MapKept.run_getObj_map hb,hc,MapKept.run_findKey Tryz.underlying9 h1,MapKept.run_setObj_map _ hb,Result.andThen]
 rw [show ent 0 L ++ [{ key:=.string ⟨k.toArray⟩,val:=v,born:=n }]=ent 0 (L ++ [(k,v)]) by rw [wF,Nat.zero_add,hn]]
 exact pK w _ _
theorem look_ok (W:World) (b:Nat) (L:List (List UInt8×Value)) (k:List UInt8) (n:Nat) (z:Value) (hb:W.heap[b]? = some (.map (ent 0 L).toArray n)) (hz:(zeroValue 247).run Tryz.prog W=.ok z W) (_hL:L≠[]) :
  (Instr.lookup 248 (.map (some b)) (.string ⟨k.toArray⟩) true).run Tryz.prog W=.ok (.tuple #[(L.lookup k).getD z,.bool (L.lookup k).isSome]) W:=by
 obtain ⟨a,h1,h2⟩:=qU k L 0 0
 have hc:∀ em,(Instr.checkKey em 10000 9 (.string ⟨k.toArray⟩)).run Tryz.prog W=.ok () W:=fun em=>MapKept.run_checkKey (k:=.string ⟨k.toArray⟩) Tryz.underlying9 (by simp [MapKept.IsKey]) em 9999
 cases a with
 | none =>
  rw [← h2]
  simp [Instr.lookup,run_underlying Tryz.underlying248,MapKept.run_getObj_map hb,hc,MapKept.run_findKey Tryz.underlying9 h1,Result.andThen,hz]
 | some q =>
  obtain ⟨i,v⟩:=q
  rw [← h2]
  simp [Instr.lookup,run_underlying Tryz.underlying248,MapKept.run_getObj_map hb,hc,MapKept.run_findKey Tryz.underlying9 h1,Result.andThen]
theorem uo (W:World):(zeroValue 247).run Tryz.prog W=.ok (.agg #[.int .u8 0,.nilFunc]) W:=by kernel_rfl
def wv (kd fn:Nat):Value:=.agg #[.int .u8 kd,.func (.func fn) #[] #[]]
def aN:List (List UInt8×Value):=[([118,97,114],wv 6 180),([105,102],wv 9 181),([102,111,114],wv 10 182),([114,101,116,117,114,110],wv 11 183),([112,114,105,110,116],wv 12 183),([101,120,105,116],wv 13 183),([114,101,97,100],wv 14 184),([99,97,108,108],wv 15 185)]
theorem Br (k:List UInt8):(aN.lookup k=none∧dn.lookup k=none)∨∃ kd fn,aN.lookup k=some (wv kd fn)∧dn.lookup k=some kd∧(kd,fn)∈[(6,180),(9,181),(10,182),(11,183),(12,183),(13,183),(14,184),(15,185)]:=by
 unfold aN dn
 simp only [List.lookup]
 split
 ·exact Or.inr ⟨_,_,rfl,rfl,by simp⟩
 split
 ·exact Or.inr ⟨_,_,rfl,rfl,by simp⟩
 split
 ·exact Or.inr ⟨_,_,rfl,rfl,by simp⟩
 split
 ·exact Or.inr ⟨_,_,rfl,rfl,by simp⟩
 split
 ·exact Or.inr ⟨_,_,rfl,rfl,by simp⟩
 split
 ·exact Or.inr ⟨_,_,rfl,rfl,by simp⟩
 split
 ·exact Or.inr ⟨_,_,rfl,rfl,by simp⟩
 split
 ·exact Or.inr ⟨_,_,rfl,rfl,by simp⟩
 exact Or.inl ⟨rfl,rfl⟩
theorem GL (w:World):(Instr.mapUpdate 248 (.map (some w.heap.size)) (.string ⟨#[118,97,114]⟩) (.agg #[.int .u8 6,.func (.func 180) #[] #[]])).run Tryz.prog (w.alloc (.map #[] 0))=.ok () (w.alloc (.map (ent 0 (aN.take 1)).toArray 1)):=jM w [] [118,97,114] (wv 6 180) 0 rfl rfl
theorem Gw (w:World):(Instr.mapUpdate 248 (.map (some w.heap.size)) (.string ⟨#[105,102]⟩) (.agg #[.int .u8 9,.func (.func 181) #[] #[]])).run Tryz.prog (w.alloc (.map (ent 0 (aN.take 1)).toArray 1))=.ok () (w.alloc (.map (ent 0 (aN.take 2)).toArray 2)):=jM w (aN.take 1) [105,102] (wv 9 181) 1 rfl rfl
theorem Gn (w:World):(Instr.mapUpdate 248 (.map (some w.heap.size)) (.string ⟨#[102,111,114]⟩) (.agg #[.int .u8 10,.func (.func 182) #[] #[]])).run Tryz.prog (w.alloc (.map (ent 0 (aN.take 2)).toArray 2))=.ok () (w.alloc (.map (ent 0 (aN.take 3)).toArray 3)):=jM w (aN.take 2) [102,111,114] (wv 10 182) 2 rfl rfl
theorem FQ (w:World):(Instr.mapUpdate 248 (.map (some w.heap.size)) (.string ⟨#[114,101,116,117,114,110]⟩) (.agg #[.int .u8 11,.func (.func 183) #[] #[]])).run Tryz.prog (w.alloc (.map (ent 0 (aN.take 3)).toArray 3))=.ok () (w.alloc (.map (ent 0 (aN.take 4)).toArray 4)):=jM w (aN.take 3) [114,101,116,117,114,110] (wv 11 183) 3 rfl rfl
theorem GR (w:World):(Instr.mapUpdate 248 (.map (some w.heap.size)) (.string ⟨#[112,114,105,110,116]⟩) (.agg #[.int .u8 12,.func (.func 183) #[] #[]])).run Tryz.prog (w.alloc (.map (ent 0 (aN.take 4)).toArray 4))=.ok () (w.alloc (.map (ent 0 (aN.take 5)).toArray 5)):=jM w (aN.take 4) [112,114,105,110,116] (wv 12 183) 4 rfl rfl
theorem Fz (w:World):(Instr.mapUpdate 248 (.map (some w.heap.size)) (.string ⟨#[101,120,105,116]⟩) (.agg #[.int .u8 13,.func (.func 183) #[] #[]])).run Tryz.prog (w.alloc (.map (ent 0 (aN.take 5)).toArray 5))=.ok () (w.alloc (.map (ent 0 (aN.take 6)).toArray 6)):=jM w (aN.take 5) [101,120,105,116] (wv 13 183) 5 rfl rfl
theorem E8 (w:World):(Instr.mapUpdate 248 (.map (some w.heap.size)) (.string ⟨#[114,101,97,100]⟩) (.agg #[.int .u8 14,.func (.func 184) #[] #[]])).run Tryz.prog (w.alloc (.map (ent 0 (aN.take 6)).toArray 6))=.ok () (w.alloc (.map (ent 0 (aN.take 7)).toArray 7)):=jM w (aN.take 6) [114,101,97,100] (wv 14 184) 6 rfl rfl
theorem Fy (w:World):(Instr.mapUpdate 248 (.map (some w.heap.size)) (.string ⟨#[99,97,108,108]⟩) (.agg #[.int .u8 15,.func (.func 185) #[] #[]])).run Tryz.prog (w.alloc (.map (ent 0 (aN.take 7)).toArray 7))=.ok () (w.alloc (.map (ent 0 (aN.take 8)).toArray 8)):=jM w (aN.take 7) [99,97,108,108] (wv 15 185) 7 rfl rfl
theorem ik (R d kd fn:Nat) (t:Tok) (r:List Tok) (res:Rd) (w:World) (h:RD w R (t :: r) d) (hk:t.kind=2) (hl:aN.lookup t.text=some (wv kd fn))
  (hE:∀ args W,(callFunc fn args).run Tryz.prog W=.ok (.enter fn args) W)
  (hC:∀ W X,RD W R r d→R<X→Blk W X 160 #[.int .u8 kd,.string ⟨([]:List UInt8).toArray⟩,.int .i64 0,.int .i64 t.at',.slice none 0 0,.slice none 0 0]→Calls Tryz.prog fn #[.pointer (some ⟨R,0,none⟩),.pointer (some ⟨X,0,none⟩)] W (OutB X W R d res (jS X))) :
  Calls Tryz.prog 146 #[.pointer (some ⟨R,0,none⟩)] w (aX w R d res):=by
 have H:=Lib.hid h; have HK:=Lib.hid hk; have HL:=Lib.hid hl; have HC:=Lib.hid hC
 clear h hk hl hC
 have hmm:=fun W=>run_makeMap_plain (P:=Tryz.prog) W 248
 have u1:=GL w
 have u2:=Gw w
 have u3:=Gn w
 have u4:=FQ w
 have u5:=GR w
 have u6:=Fz w
 have u7:=E8 w
 have u8:=Fy w
 have f1:=qW
 have f0:=mH
 go_enter Tryz.func146,Tryz.ntmps146
 go_wp2_with fail
 refine (dX R d 7 (t :: r) _ (H.out.alloc _)).mono ?_; rintro e w1 ⟨X,rfl,hX,hb1,hk1⟩
 have hRw:=H.out.lt.1
 have hXw:w.heap.size<X:=by simp at hX; omega
 have HX1:=Lib.hid hb1
 have HM1:Hid (w1.heap[w.heap.size]? = some (.map (ent 0 (aN.take 8)).toArray 8)):=Lib.hid ((hk1.block _ (by simp)).trans (heap_alloc_new w _))
 have HR1:=Lib.hid ((H.out.alloc (.map (ent 0 (aN.take 8)).toArray 8)).below hk1 (by simp; omega))
 have HK1:Hid (au w.heap.size R w w1):=Lib.hid (((au.refl _ R w).alloc (Nat.le_refl _) (.map (ent 0 (aN.take 8)).toArray 8)).below hk1 (by simp))
 clear hb1 hk1 hX u1 u2 u3 u4 u5 u6 u7 u8 hmm
 go_wp2_with fail
 refine (dP R t r d _ HR1.out).mono ?_; rintro e w2 ⟨rfl,hb2⟩; unfold eY
 have lk:(Instr.lookup 248 (.map (some w.heap.size)) (.string ⟨t.text.toArray⟩) true).run Tryz.prog w2=.ok (.tuple #[.agg #[.int .u8 kd,.func (.func fn) #[] #[]],.bool true]) w2:=by
  have hm2:w2.heap[w.heap.size]? = some (.map (ent 0 aN).toArray 8):=(hb2.block _ (Array.getElem?_eq_some_iff.1 HM1.out).1).trans HM1.out
  have:=look_ok w2 w.heap.size aN t.text 8 _ hm2 (uo w2) (by unfold aN; simp)
  rw [HL.out] at this
  exact this
 have HX2:=Lib.hid (HX1.out.below hb2)
 have HR2:=Lib.hid (HR1.out.below hb2 HR1.out.lt.1)
 have HK2:=Lib.hid (HK1.out.below hb2 HK1.out.size)
 have hs2:w.heap.size≤w2.heap.size:=HK2.out.size
 clear hb2 HM1 HX1 HR1 HK1
 have kk:((t.kind:Int) != 2)=false:=by simp [HK.out]
 go_wp2_with fail
 have HR2a:=Lib.hid (HR2.out.alloc (.cells #[.int .u8 kd,.func (.func fn) #[] #[]] 247))
 have HW2:=Lib.hid (Blk.new w2 247 #[.int .u8 kd,.func (.func fn) #[] #[]])
 have HX2a:=Lib.hid (HX2.out.alloc (.cells #[.int .u8 kd,.func (.func fn) #[] #[]] 247))
 have HK2a:=Lib.hid (HK2.out.alloc hs2 (.cells #[.int .u8 kd,.func (.func fn) #[] #[]] 247))
 refine (dP R t r d _ HR2a.out).mono ?_; rintro e w3 ⟨rfl,hb3⟩; unfold eY
 have HR3:=Lib.hid (HR2a.out.below hb3 HR2a.out.lt.1)
 have HW3:=Lib.hid (HW2.out.below hb3)
 have HX3:=Lib.hid (HX2a.out.below hb3)
 have HK3:=Lib.hid (HK2a.out.below hb3 HK2a.out.size)
 have hs3:w2.heap.size<w3.heap.size:=HW3.out.lt
 clear hb3 lk
 go_wp2_with fail
 refine (kJ R t r d _ HR3.out (by have:=HK.out; omega)).mono ?_; rintro e w4 ⟨rfl,hr4,hk4⟩; unfold eY
 have hX3:=HX3.out.lt
 have b1:=HW3.out.kept hk4 hs3 (by omega)
 have b2:=HX3.out.kept hk4 hX3 (by omega)
 have nX:¬ w2.heap.size=X:=by have:=HX2.out.lt; omega
 have g0:w4.cell? ⟨w2.heap.size,0,none⟩=some (.int .u8 kd):=b1.cell 0
 have g1:w4.cell? ⟨w2.heap.size,1,none⟩=some (.func (.func fn) #[] #[]):=b1.cell 1
 have g2:w4.cell? ⟨X,0,none⟩=some (.int .u8 (7:Nat)):=b2.cell 0
 have g3:=b2.free 0
 have HW4:=Lib.hid b1; have HX4:=Lib.hid b2
 have HR4:=Lib.hid hr4
 have HK4:=Lib.hid (HK3.out.trans hk4 HK3.out.size)
 clear b1 b2 hr4 hk4
 go_upto_region 9 with fail
 have HW5:=Lib.hid (HW4.out.far nX 0 (.int .u8 kd))
 have HX5:Hid (Blk (w4.setCell ⟨X,0,none⟩ (.int .u8 kd)) X 160 #[.int .u8 kd,.string ⟨([]:List UInt8).toArray⟩,.int .i64 0,.int .i64 t.at',.slice none 0 0,.slice none 0 0]):=Lib.hid (HX4.out.put 0 (.int .u8 kd))
 have HR5:=Lib.hid (HR4.out.set (p:=⟨X,0,none⟩) (show R<X by omega) (.int .u8 kd))
 have HK5:=Lib.hid (HK4.out.setCell (p:=⟨X,0,none⟩) (Or.inr (show w.heap.size≤X by omega)) (.int .u8 kd))
 generalize w4.setCell ⟨X,0,none⟩ (.int .u8 kd)=W5 at *
 clear g0 g1 g2 g3
 have g1:W5.cell? ⟨w2.heap.size,1,none⟩=some (.func (.func fn) #[] #[]):=HW5.out.cell 1
 have hE2:=fun W=>hE #[.pointer (some ⟨R,0,none⟩),.pointer (some ⟨X,0,none⟩)] W
 go_wp2_with fail
 refine (HC.out W5 X HR5.out (by omega) HX5.out).mono ?_
 rintro e w6 ⟨hk6,ho⟩
 have HK6:=Lib.hid (HK5.out.trans (hk6.mono (C:=X) (Nat.le_refl _)) (show w.heap.size≤X by omega))
 cases res with
 | error q =>
  obtain ⟨p,er⟩:=q
  subst ho
  exact⟨rfl,OutB.err rfl HK6.out⟩
 | ok q =>
  obtain ⟨y,ts2⟩:=q
  obtain ⟨hr6,v,rfl,rfl,hi6⟩:=ho
  have HR6:=Lib.hid hr6; have HI6:=Lib.hid hi6
  clear hr6 hi6 hk6 g1
  go_wp2_with fail
  go_ret
  exact OutB.ok rfl HK6.out HR6.out ⟨X,rfl,HI6.out.mono (fun j hj _=>by omega)⟩
theorem DC (R d kd fn:Nat) (t:Tok) (r:List Tok) (res:Rd) (w:World) (h:RD w R (t :: r) d) (hk:t.kind≠2) (hl:aN.lookup t.text=some (wv kd fn))
  (hC:∀ W X,RD W R (t :: r) d→R<X→Blk W X 160 #[.int .u8 (7:Nat),.string ⟨([]:List UInt8).toArray⟩,.int .i64 0,.int .i64 t.at',.slice none 0 0,.slice none 0 0]→Calls Tryz.prog 186 #[.pointer (some ⟨R,0,none⟩),.pointer (some ⟨X,0,none⟩)] W (OutB X W R d res (jS X))) :
  Calls Tryz.prog 146 #[.pointer (some ⟨R,0,none⟩)] w (aX w R d res):=by
 have H:=Lib.hid h; have HK:=Lib.hid hk; have HL:=Lib.hid hl; have HC:=Lib.hid hC
 clear h hk hl hC
 have hmm:=fun W=>run_makeMap_plain (P:=Tryz.prog) W 248
 have u1:=GL w
 have u2:=Gw w
 have u3:=Gn w
 have u4:=FQ w
 have u5:=GR w
 have u6:=Fz w
 have u7:=E8 w
 have u8:=Fy w
 have f1:=qW
 have f0:=mH
 go_enter Tryz.func146,Tryz.ntmps146
 go_wp2_with fail
 refine (dX R d 7 (t :: r) _ (H.out.alloc _)).mono ?_; rintro e w1 ⟨X,rfl,hX,hb1,hk1⟩
 have hRw:=H.out.lt.1
 have hXw:w.heap.size<X:=by simp at hX; omega
 have HX1:=Lib.hid hb1
 have HM1:Hid (w1.heap[w.heap.size]? = some (.map (ent 0 (aN.take 8)).toArray 8)):=Lib.hid ((hk1.block _ (by simp)).trans (heap_alloc_new w _))
 have HR1:=Lib.hid ((H.out.alloc (.map (ent 0 (aN.take 8)).toArray 8)).below hk1 (by simp; omega))
 have HK1:Hid (au w.heap.size R w w1):=Lib.hid (((au.refl _ R w).alloc (Nat.le_refl _) (.map (ent 0 (aN.take 8)).toArray 8)).below hk1 (by simp))
 clear hb1 hk1 hX u1 u2 u3 u4 u5 u6 u7 u8 hmm
 go_wp2_with fail
 refine (dP R t r d _ HR1.out).mono ?_; rintro e w2 ⟨rfl,hb2⟩; unfold eY
 have lk:(Instr.lookup 248 (.map (some w.heap.size)) (.string ⟨t.text.toArray⟩) true).run Tryz.prog w2=.ok (.tuple #[.agg #[.int .u8 kd,.func (.func fn) #[] #[]],.bool true]) w2:=by
  have hm2:w2.heap[w.heap.size]? = some (.map (ent 0 aN).toArray 8):=(hb2.block _ (Array.getElem?_eq_some_iff.1 HM1.out).1).trans HM1.out
  have:=look_ok w2 w.heap.size aN t.text 8 _ hm2 (uo w2) (by unfold aN; simp)
  rw [HL.out] at this
  exact this
 have HX2:=Lib.hid (HX1.out.below hb2)
 have HR2:=Lib.hid (HR1.out.below hb2 HR1.out.lt.1)
 have HK2:=Lib.hid (HK1.out.below hb2 HK1.out.size)
 have hs2:w.heap.size≤w2.heap.size:=HK2.out.size
 clear hb2 HM1 HX1 HR1 HK1
 have kk:((t.kind:Int) != 2)=true:=by have:=HK.out; simp; omega
 go_wp2_with fail
 have HR2a:=Lib.hid (HR2.out.alloc (.cells #[.int .u8 kd,.func (.func fn) #[] #[]] 247))
 have HW2:=Lib.hid (Blk.new w2 247 #[.int .u8 kd,.func (.func fn) #[] #[]])
 have HX2a:=Lib.hid (HX2.out.alloc (.cells #[.int .u8 kd,.func (.func fn) #[] #[]] 247))
 have HK2a:=Lib.hid (HK2.out.alloc hs2 (.cells #[.int .u8 kd,.func (.func fn) #[] #[]] 247))
 refine (dP R t r d _ HR2a.out).mono ?_; rintro e w3 ⟨rfl,hb3⟩; unfold eY
 have HR3:=Lib.hid (HR2a.out.below hb3 HR2a.out.lt.1)
 have HW3:=Lib.hid (HW2.out.below hb3)
 have HX3:=Lib.hid (HX2a.out.below hb3)
 have HK3:=Lib.hid (HK2a.out.below hb3 HK2a.out.size)
 have hs3:w2.heap.size<w3.heap.size:=HW3.out.lt
 clear hb3 lk
 go_wp2_with fail
 refine (HC.out _ X HR3.out (by omega) HX3.out).mono ?_
 rintro e w6 ⟨hk6,ho⟩
 have HK6:=Lib.hid (HK3.out.trans (hk6.mono (C:=X) (Nat.le_refl _)) (show w.heap.size≤X by omega))
 cases res with
 | error q =>
  obtain ⟨p,er⟩:=q
  subst ho
  exact⟨rfl,OutB.err rfl HK6.out⟩
 | ok q =>
  obtain ⟨y,ts2⟩:=q
  obtain ⟨hr6,v,rfl,rfl,hi6⟩:=ho
  have HR6:=Lib.hid hr6; have HI6:=Lib.hid hi6
  clear hr6 hi6 hk6
  go_wp2_with fail
  go_ret
  exact OutB.ok rfl HK6.out HR6.out ⟨X,rfl,HI6.out.mono (fun j hj _=>by omega)⟩
theorem CZ (R d:Nat) (t:Tok) (r:List Tok) (res:Rd) (w:World) (h:RD w R (t :: r) d) (hl:aN.lookup t.text=none)
  (hC:∀ W X,RD W R (t :: r) d→R<X→Blk W X 160 #[.int .u8 (7:Nat),.string ⟨([]:List UInt8).toArray⟩,.int .i64 0,.int .i64 t.at',.slice none 0 0,.slice none 0 0]→Calls Tryz.prog 186 #[.pointer (some ⟨R,0,none⟩),.pointer (some ⟨X,0,none⟩)] W (OutB X W R d res (jS X))) :
  Calls Tryz.prog 146 #[.pointer (some ⟨R,0,none⟩)] w (aX w R d res):=by
 have H:=Lib.hid h; have HL:=Lib.hid hl; have HC:=Lib.hid hC
 clear h hl hC
 have hmm:=fun W=>run_makeMap_plain (P:=Tryz.prog) W 248
 have u1:=GL w
 have u2:=Gw w
 have u3:=Gn w
 have u4:=FQ w
 have u5:=GR w
 have u6:=Fz w
 have u7:=E8 w
 have u8:=Fy w
 have f1:=qW
 have f0:=mH
 go_enter Tryz.func146,Tryz.ntmps146
 go_wp2_with fail
 refine (dX R d 7 (t :: r) _ (H.out.alloc _)).mono ?_; rintro e w1 ⟨X,rfl,hX,hb1,hk1⟩
 have hRw:=H.out.lt.1
 have hXw:w.heap.size<X:=by simp at hX; omega
 have HX1:=Lib.hid hb1
 have HM1:Hid (w1.heap[w.heap.size]? = some (.map (ent 0 (aN.take 8)).toArray 8)):=Lib.hid ((hk1.block _ (by simp)).trans (heap_alloc_new w _))
 have HR1:=Lib.hid ((H.out.alloc (.map (ent 0 (aN.take 8)).toArray 8)).below hk1 (by simp; omega))
 have HK1:Hid (au w.heap.size R w w1):=Lib.hid (((au.refl _ R w).alloc (Nat.le_refl _) (.map (ent 0 (aN.take 8)).toArray 8)).below hk1 (by simp))
 clear hb1 hk1 hX u1 u2 u3 u4 u5 u6 u7 u8 hmm
 go_wp2_with fail
 refine (dP R t r d _ HR1.out).mono ?_; rintro e w2 ⟨rfl,hb2⟩; unfold eY
 have lk:(Instr.lookup 248 (.map (some w.heap.size)) (.string ⟨t.text.toArray⟩) true).run Tryz.prog w2=.ok (.tuple #[.agg #[.int .u8 0,.nilFunc],.bool false]) w2:=by
  have hm2:w2.heap[w.heap.size]? = some (.map (ent 0 aN).toArray 8):=(hb2.block _ (Array.getElem?_eq_some_iff.1 HM1.out).1).trans HM1.out
  have:=look_ok w2 w.heap.size aN t.text 8 _ hm2 (uo w2) (by unfold aN; simp)
  rw [HL.out] at this
  exact this
 have HX2:=Lib.hid (HX1.out.below hb2)
 have HR2:=Lib.hid (HR1.out.below hb2 HR1.out.lt.1)
 have HK2:=Lib.hid (HK1.out.below hb2 HK1.out.size)
 have hs2:w.heap.size≤w2.heap.size:=HK2.out.size
 clear hb2 HM1 HX1 HR1 HK1
 go_wp2_with fail
 have HR2a:=Lib.hid (HR2.out.alloc (.cells #[.int .u8 0,.nilFunc] 247))
 have HX2a:=Lib.hid (HX2.out.alloc (.cells #[.int .u8 0,.nilFunc] 247))
 have HK2a:=Lib.hid (HK2.out.alloc hs2 (.cells #[.int .u8 0,.nilFunc] 247))
 refine (HC.out _ X HR2a.out (by omega) HX2a.out).mono ?_
 rintro e w6 ⟨hk6,ho⟩
 have HK6:=Lib.hid (HK2a.out.trans (hk6.mono (C:=X) (Nat.le_refl _)) (show w.heap.size≤X by omega))
 cases res with
 | error q =>
  obtain ⟨p,er⟩:=q
  subst ho
  exact⟨rfl,OutB.err rfl HK6.out⟩
 | ok q =>
  obtain ⟨y,ts2⟩:=q
  obtain ⟨hr6,v,rfl,rfl,hi6⟩:=ho
  have HR6:=Lib.hid hr6; have HI6:=Lib.hid hi6
  clear hr6 hi6 hk6
  go_wp2_with fail
  go_ret
  exact OutB.ok rfl HK6.out HR6.out ⟨X,rfl,HI6.out.mono (fun j hj _=>by omega)⟩
end Go.Proofs.YtkkeocnnecegbaaGreatDoor
