/- Joint text: PwF. By an AI agent. -/
import Derived.Test.YtkkeocnnecegbaaGreatDoorQ07
import Derived.Deep.RegionHeld3
set_option linter.all false
set_option maxRecDepth 100000
set_option maxHeartbeats 64000000
namespace Go.Proofs.YtkkeocnnecegbaaGreatDoor
open Go.RowKit
def KF (B:Nat) (x:Item) (v:Value) (w':World):Prop:=∃ p,v=.pointer (some ⟨p,0,none⟩)∧dx w' (fun j=>B≤j) p x
def aX (w:World) (R d:Nat) (res:Rd):Ending→World→Prop:=OutB w.heap.size w R d res (KF w.heap.size)
structure bX (bx br X L R:Nat) (k:Nat) (t:List UInt8) (n:Int) (a:Nat) (l:List Item) (w:World):Prop where
 bx:Blk w bx 93 #[.pointer (some ⟨X,0,none⟩)]
 br:Blk w br 90 #[.pointer (some ⟨R,0,none⟩)]
 it:∃ C,aO w X L C (.mk k t n a l)
structure iN (bx br X L R:Nat):Prop where
 x:bx<L
 r:br<L
 xX:bx≠X
 rX:br≠X
 xR:bx≠R
 rR:br≠R
 RX:R<X
theorem bX.keep {bx br X L R k a:Nat} {t:List UInt8} {n:Int} {l:List Item} {w w':World} (h:bX bx br X L R k t n a l w) (hb:iN bx br X L R) (hk:au w.heap.size R w w'):bX bx br X L R k t n a l w':=by
 obtain ⟨h1,h2,C,h3⟩:=h
 exact⟨(hk.block bx h1.lt hb.xR).trans h1,(hk.block br h2.lt hb.rR).trans h2,C,h3.keep hk h3.top hb.RX⟩
theorem RD.drew {w:World} {R:Nat} {ts:List Tok} {d:Nat} (h:RD w R ts d):RD w.drew R ts d:=h.same (fun _ _=>rfl)
theorem au.fD {B R:Nat} {w w':World} (h:au B R w.drew w'):au B R w w':=⟨h.os,h.tape,h.output,h.size,h.block⟩
theorem aO.drew {w:World} {X L C:Nat} {x:Item} (h:aO w X L C x):aO w.drew X L C x:=by
 obtain ⟨h1,h2,h3,k,t,n,a,ks,v,ps,F,rfl,h4,h5,h6,h7,h8⟩:=h
 exact⟨h1,h2,h3,k,t,n,a,ks,v,ps,F,rfl,h4,dG h5 (fun _ _=>rfl),KidsAt.keep (w:=w) (w':=w.drew) (fun _ _ _=>rfl) h6,h7,h8⟩
theorem Blk.kept {B R g:Nat} {w w':World} {T:TypeId} {cs:Array Value} (h:Blk w g T cs) (hk:au B R w w') (hg:g<B) (hR:g≠R):Blk w' g T cs:=(hk.block g hg hR).trans h
theorem aX.yes {w:World} {R d:Nat} {x:Item} {ts:List Tok} {e:Ending} {w':World} (h:aX w R d (.ok (x,ts)) e w'):∃ p,e=.returned (.pointer (some ⟨p,0,none⟩))∧dx w' (fun j=>w.heap.size≤j) p x∧RD w' R ts d∧au w.heap.size R w w':=by
 obtain ⟨hk,hr,v,rfl,p,rfl,hi⟩:=h
 exact⟨p,rfl,hi,hr,hk⟩
theorem aX.no {w:World} {R d p:Nat} {er:Int} {e:Ending} {w':World} (h:aX w R d (.error (p,er)) e w'):e=.panicked [{ v:=gG p er,recovered:=false }]∧au w.heap.size R w w':=by
 obtain ⟨hk,rfl⟩:=h
 exact⟨rfl,hk⟩
theorem aO.alloc {w:World} {X L C:Nat} {x:Item} (h:aO w X L C x) (o:Obj):aO (w.alloc o) X L C x:=by
 obtain ⟨h1,h2,h3,k,t,n,a,ks,v,ps,F,rfl,h4,h5,h6,h7,h8⟩:=h
 have s:∀ j,j<w.heap.size→(w.alloc o).heap[j]? = w.heap[j]?:=fun j hj=>Below.heap_alloc _ _ _ hj
 exact⟨h1,h2,by simp; omega,k,t,n,a,ks,v,ps,F,rfl,h4.alloc o,dG h5 (fun q e=>s q (h5.lt q e).2),h6.keep (fun j _ hj=>s j hj),h7,h8⟩
theorem au.item {B R L X:Nat} {w w':World} (h:au L X w w') (hB:B≤X) (hX:X<L):au B R w w':=⟨h.os,h.tape,h.output,h.size,fun k hk _=>h.block k (by omega) (by omega)⟩
theorem RD.item {R L X:Nat} {w w':World} {ts:List Tok} {d:Nat} (hr:RD w R ts d) (h:au L X w w') (hR:R<X) (hX:X<L):RD w' R ts d:=hr.same (fun k hk=>h.block k (by omega) (by omega))
theorem dx.alloc {w:World} {F:Nat→Prop} {p:Nat} {x:Item} (h:dx w F p x) (o:Obj):dx (w.alloc o) F p x:=h.keep (fun _j _ hj=>Below.heap_alloc _ _ _ hj)
theorem Ex (B bx br X L R d k a:Nat) (t:List UInt8) (n:Int) (l:List Item) (x:Item) (ts ts1:List Tok) (w:World) (hQ:bX bx br X L R k t n a l w) (hb:iN bx br X L R) (hr:RD w R ts d) (hB:B≤X) (hl:l.length≤100000)
  (hC:∀ W,RD W R ts d→Calls Tryz.prog 239 #[.pointer (some ⟨R,0,none⟩)] W (aX W R d (.ok (x,ts1)))) :
  Calls Tryz.prog 245 #[.pointer (some ⟨bx,0,none⟩),.pointer (some ⟨br,0,none⟩)] w (OutB B w R d (.ok (x,ts1):Rd) fun x v w'=>v=.tuple #[]∧bX bx br X L R k t n a (l ++ [x]) w'):=by
 have cx:w.cell? ⟨bx,0,none⟩=some (.pointer (some ⟨X,0,none⟩)):=hQ.bx.cell 0
 have cr:w.cell? ⟨br,0,none⟩=some (.pointer (some ⟨R,0,none⟩)):=hQ.br.cell 0
 obtain ⟨hbx,hbr,C,hit⟩:=hQ
 have lx:=hbx.lt
 have lr:=hbr.lt
 have HIT:=Lib.hid (hit.grow hit.top (Nat.le_refl _)).drew
 have HBX:Hid (Blk w.drew bx 93 #[.pointer (some ⟨X,0,none⟩)]):=Lib.hid hbx
 have HBR:Hid (Blk w.drew br 90 #[.pointer (some ⟨R,0,none⟩)]):=Lib.hid hbr
 have HB:=Lib.hid hb; have HR:=Lib.hid hr.drew
 have HC:=Lib.hid (fun W h=>(hC W h).mono (fun _ _=>aX.yes))
 clear hb hr hC hbx hbr hit
 go_enter Tryz.func245,Tryz.ntmps245
 go_region_held3 (fun w'=>w'.cell? ⟨bx,0,none⟩=some (.pointer (some ⟨X,0,none⟩))∧w'.cell? ⟨br,0,none⟩=some (.pointer (some ⟨R,0,none⟩)))
  (first | go_keep)
  (first
   | (go_at_call 239; refine (HC.out _ HR.out).mono ?_; rintro e w1 ⟨p,rfl,hi1,hr1,hk1⟩; have b1:=HBX.out.kept hk1 lx HB.out.xR; have b2:=HBR.out.kept hk1 lr HB.out.rR; have c1:w1.cell? ⟨bx,0,none⟩=some (.pointer (some ⟨X,0,none⟩)):=b1.cell 0; have c2:w1.cell? ⟨br,0,none⟩=some (.pointer (some ⟨R,0,none⟩)):=b2.cell 0; have l1:=b1.lt; have l2:=b2.lt; have BX1:=Lib.hid b1; have BR1:=Lib.hid b2; have IT1:=Lib.hid (HIT.out.keep hk1 (Nat.le_refl _) HB.out.RX); have HI1:=Lib.hid hi1; have HR1:=Lib.hid hr1; have HK1:=Lib.hid hk1; clear b1 b2 hi1 hr1 hk1)
   | (go_at_call 53; refine (fG X L w.drew.heap.size w1.heap.size 1 k a t n l [x] [p] _ (IT1.out.alloc _) (Blk.new w1 93 _) (KidsAt.one (HI1.out.alloc _)) rfl (by omega) (by omega)).mono ?_; rintro e w2 ⟨rfl,it2,k2⟩; have b1:=(BX1.out.alloc (.cells #[.pointer (some ⟨p,0,none⟩)] 93)).kept k2 HB.out.x HB.out.xX; have b2:=(BR1.out.alloc (.cells #[.pointer (some ⟨p,0,none⟩)] 93)).kept k2 HB.out.r HB.out.rX; have d1:w2.cell? ⟨bx,0,none⟩=some (.pointer (some ⟨X,0,none⟩)):=b1.cell 0; have d2:w2.cell? ⟨br,0,none⟩=some (.pointer (some ⟨R,0,none⟩)):=b2.cell 0; have BX2:=Lib.hid b1; have BR2:=Lib.hid b2; have IT2:=Lib.hid it2; have K2:=Lib.hid k2; clear b1 b2 it2 k2))
 go_wp2_with fail
 go_end0
 have hlt:=HIT.out.lt
 have hle:L≤w.heap.size:=HIT.out.le
 exact OutB.ok rfl ((((au.fD HK1.out).mono (by show B≤w.heap.size; omega)).alloc (by have:=HK1.out.size; have e:w.drew.heap.size=w.heap.size:=rfl; omega) _).trans (K2.out.item (B:=B) hB hlt) (Nat.le_refl _)) ((HR1.out.alloc _).item K2.out HB.out.RX hlt) ⟨rfl,BX2.out,BR2.out,_,IT2.out⟩
theorem Ev (B bx br X L R d k a p:Nat) (er:Int) (t:List UInt8) (n:Int) (l:List Item) (ts:List Tok) (w:World) (P:Item→Value→World→Prop) (hQ:bX bx br X L R k t n a l w) (hr:RD w R ts d) (hB:B≤w.heap.size)
  (hC:∀ W,RD W R ts d→Calls Tryz.prog 239 #[.pointer (some ⟨R,0,none⟩)] W (aX W R d (.error (p,er)))) :
  Calls Tryz.prog 245 #[.pointer (some ⟨bx,0,none⟩),.pointer (some ⟨br,0,none⟩)] w (OutB B w R d (.error (p,er):Rd) P):=by
 have cx:w.cell? ⟨bx,0,none⟩=some (.pointer (some ⟨X,0,none⟩)):=hQ.bx.cell 0
 have cr:w.cell? ⟨br,0,none⟩=some (.pointer (some ⟨R,0,none⟩)):=hQ.br.cell 0
 have HR:=Lib.hid hr.drew
 have HC:=Lib.hid (fun W h=>(hC W h).mono (fun _ _=>aX.no))
 clear hr hC hQ
 go_enter Tryz.func245,Tryz.ntmps245
 refine wp_region_held_drew (S:=fun w'=>w'.cell? ⟨bx,0,none⟩=some (.pointer (some ⟨X,0,none⟩))∧w'.cell? ⟨br,0,none⟩=some (.pointer (some ⟨R,0,none⟩))) (by kernel_rfl) ⟨cx,cr⟩ (fun hS=>?_)
 refine wpAnyH_take (i:=0) (v:=.pointer (some ⟨X,0,none⟩)) rfl (by kernel_rfl) (by kernel_rfl) (by kernel_rfl) (fun _ _ _ h=>h) (Or.inl ⟨by rfl,?_⟩) hS ?_
 ·intro W hW
  go_simp
 simp only [Act.put,List.setIfInBounds_toArray]
 refine wpAnyH_take (i:=1) (v:=.pointer (some ⟨R,0,none⟩)) rfl (by kernel_rfl) (by kernel_rfl) (by kernel_rfl) (fun _ _ _ h=>h) (Or.inl ⟨by rfl,?_⟩) hS ?_
 ·intro W hW
  go_simp
 simp only [Act.put]
 refine wpAnyH_ready (rs:=[2]) (by kernel_rfl) (by simp) ?_
 refine AllReadyH.cons rfl (fun K hK=>?_) .nil
 go_simp
 refine (HC.out _ HR.out).mono ?_
 rintro e w1 ⟨rfl,hk1⟩
 exact⟨rfl,OutB.err rfl ((au.fD hk1).mono hB)⟩
theorem rO (B bx br X L R d k a:Nat) (t:List UInt8) (n:Int) (l:List Item) (res:Rd) (ts:List Tok) (w:World) (hQ:bX bx br X L R k t n a l w) (hb:iN bx br X L R) (hr:RD w R ts d) (hB:B≤X) (hl:l.length≤100000)
  (hC:∀ W,RD W R ts d→Calls Tryz.prog 239 #[.pointer (some ⟨R,0,none⟩)] W (aX W R d res)) :
  Calls Tryz.prog 245 #[.pointer (some ⟨bx,0,none⟩),.pointer (some ⟨br,0,none⟩)] w (OutB B w R d res fun x v w'=>v=.tuple #[]∧bX bx br X L R k t n a (l ++ [x]) w'):=by
 cases res with
 | error q=>exact Ev B bx br X L R d k a q.1 q.2 t n l ts w _ hQ hr (by obtain ⟨C,h⟩:=hQ.it; have:=h.lt; have:=h.le; have:=h.top; omega) hC
 | ok q=>exact Ex B bx br X L R d k a t n l q.1 ts q.2 w hQ hb hr hB hl hC
theorem Dx (B bx br X L R d k a:Nat) (t:List UInt8) (n:Int) (l:List Item) (x:Item) (ts ts1:List Tok) (w:World) (hQ:bX bx br X L R k t n a l w) (hb:iN bx br X L R) (hr:RD w R ts d) (hB:B≤X) (hl:l.length≤100000)
  (hC:∀ W,RD W R ts d→Calls Tryz.prog 210 #[.pointer (some ⟨R,0,none⟩)] W (aX W R d (.ok (x,ts1)))) :
  Calls Tryz.prog 211 #[.pointer (some ⟨bx,0,none⟩),.pointer (some ⟨br,0,none⟩)] w (OutB B w R d (.ok (x,ts1):Rd) fun x v w'=>v=.tuple #[]∧bX bx br X L R k t n a (l ++ [x]) w'):=by
 have cx:w.cell? ⟨bx,0,none⟩=some (.pointer (some ⟨X,0,none⟩)):=hQ.bx.cell 0
 have cr:w.cell? ⟨br,0,none⟩=some (.pointer (some ⟨R,0,none⟩)):=hQ.br.cell 0
 obtain ⟨hbx,hbr,C,hit⟩:=hQ
 have lx:=hbx.lt
 have lr:=hbr.lt
 have HIT:=Lib.hid (hit.grow hit.top (Nat.le_refl _)).drew
 have HBX:Hid (Blk w.drew bx 93 #[.pointer (some ⟨X,0,none⟩)]):=Lib.hid hbx
 have HBR:Hid (Blk w.drew br 90 #[.pointer (some ⟨R,0,none⟩)]):=Lib.hid hbr
 have HB:=Lib.hid hb; have HR:=Lib.hid hr.drew
 have HC:=Lib.hid (fun W h=>(hC W h).mono (fun _ _=>aX.yes))
 clear hb hr hC hbx hbr hit
 go_enter Tryz.func211,Tryz.ntmps211
 go_region_held3 (fun w'=>w'.cell? ⟨bx,0,none⟩=some (.pointer (some ⟨X,0,none⟩))∧w'.cell? ⟨br,0,none⟩=some (.pointer (some ⟨R,0,none⟩)))
  (first | go_keep)
  (first
   | (go_at_call 210; refine (HC.out _ HR.out).mono ?_; rintro e w1 ⟨p,rfl,hi1,hr1,hk1⟩; have b1:=HBX.out.kept hk1 lx HB.out.xR; have b2:=HBR.out.kept hk1 lr HB.out.rR; have c1:w1.cell? ⟨bx,0,none⟩=some (.pointer (some ⟨X,0,none⟩)):=b1.cell 0; have c2:w1.cell? ⟨br,0,none⟩=some (.pointer (some ⟨R,0,none⟩)):=b2.cell 0; have l1:=b1.lt; have l2:=b2.lt; have BX1:=Lib.hid b1; have BR1:=Lib.hid b2; have IT1:=Lib.hid (HIT.out.keep hk1 (Nat.le_refl _) HB.out.RX); have HI1:=Lib.hid hi1; have HR1:=Lib.hid hr1; have HK1:=Lib.hid hk1; clear b1 b2 hi1 hr1 hk1)
   | (go_at_call 53; refine (fG X L w.drew.heap.size w1.heap.size 1 k a t n l [x] [p] _ (IT1.out.alloc _) (Blk.new w1 93 _) (KidsAt.one (HI1.out.alloc _)) rfl (by omega) (by omega)).mono ?_; rintro e w2 ⟨rfl,it2,k2⟩; have b1:=(BX1.out.alloc (.cells #[.pointer (some ⟨p,0,none⟩)] 93)).kept k2 HB.out.x HB.out.xX; have b2:=(BR1.out.alloc (.cells #[.pointer (some ⟨p,0,none⟩)] 93)).kept k2 HB.out.r HB.out.rX; have d1:w2.cell? ⟨bx,0,none⟩=some (.pointer (some ⟨X,0,none⟩)):=b1.cell 0; have d2:w2.cell? ⟨br,0,none⟩=some (.pointer (some ⟨R,0,none⟩)):=b2.cell 0; have BX2:=Lib.hid b1; have BR2:=Lib.hid b2; have IT2:=Lib.hid it2; have K2:=Lib.hid k2; clear b1 b2 it2 k2))
 go_wp2_with fail
 go_end0
 have hlt:=HIT.out.lt
 have hle:L≤w.heap.size:=HIT.out.le
 exact OutB.ok rfl ((((au.fD HK1.out).mono (by show B≤w.heap.size; omega)).alloc (by have:=HK1.out.size; have e:w.drew.heap.size=w.heap.size:=rfl; omega) _).trans (K2.out.item (B:=B) hB hlt) (Nat.le_refl _)) ((HR1.out.alloc _).item K2.out HB.out.RX hlt) ⟨rfl,BX2.out,BR2.out,_,IT2.out⟩
theorem DF (B bx br X L R d k a p:Nat) (er:Int) (t:List UInt8) (n:Int) (l:List Item) (ts:List Tok) (w:World) (P:Item→Value→World→Prop) (hQ:bX bx br X L R k t n a l w) (hr:RD w R ts d) (hB:B≤w.heap.size)
  (hC:∀ W,RD W R ts d→Calls Tryz.prog 210 #[.pointer (some ⟨R,0,none⟩)] W (aX W R d (.error (p,er)))) :
  Calls Tryz.prog 211 #[.pointer (some ⟨bx,0,none⟩),.pointer (some ⟨br,0,none⟩)] w (OutB B w R d (.error (p,er):Rd) P):=by
 have cx:w.cell? ⟨bx,0,none⟩=some (.pointer (some ⟨X,0,none⟩)):=hQ.bx.cell 0
 have cr:w.cell? ⟨br,0,none⟩=some (.pointer (some ⟨R,0,none⟩)):=hQ.br.cell 0
 have HR:=Lib.hid hr.drew
 have HC:=Lib.hid (fun W h=>(hC W h).mono (fun _ _=>aX.no))
 clear hr hC hQ
 go_enter Tryz.func211,Tryz.ntmps211
 refine wp_region_held_drew (S:=fun w'=>w'.cell? ⟨bx,0,none⟩=some (.pointer (some ⟨X,0,none⟩))∧w'.cell? ⟨br,0,none⟩=some (.pointer (some ⟨R,0,none⟩))) (by kernel_rfl) ⟨cx,cr⟩ (fun hS=>?_)
 refine wpAnyH_take (i:=0) (v:=.pointer (some ⟨X,0,none⟩)) rfl (by kernel_rfl) (by kernel_rfl) (by kernel_rfl) (fun _ _ _ h=>h) (Or.inl ⟨by rfl,?_⟩) hS ?_
 ·intro W hW
  go_simp
 simp only [Act.put,List.setIfInBounds_toArray]
 refine wpAnyH_take (i:=1) (v:=.pointer (some ⟨R,0,none⟩)) rfl (by kernel_rfl) (by kernel_rfl) (by kernel_rfl) (fun _ _ _ h=>h) (Or.inl ⟨by rfl,?_⟩) hS ?_
 ·intro W hW
  go_simp
 simp only [Act.put]
 refine wpAnyH_ready (rs:=[2]) (by kernel_rfl) (by simp) ?_
 refine AllReadyH.cons rfl (fun K hK=>?_) .nil
 go_simp
 refine (HC.out _ HR.out).mono ?_
 rintro e w1 ⟨rfl,hk1⟩
 exact⟨rfl,OutB.err rfl ((au.fD hk1).mono hB)⟩
theorem Bh (B bx br X L R d k a:Nat) (t:List UInt8) (n:Int) (l:List Item) (res:Rd) (ts:List Tok) (w:World) (hQ:bX bx br X L R k t n a l w) (hb:iN bx br X L R) (hr:RD w R ts d) (hB:B≤X) (hl:l.length≤100000)
  (hC:∀ W,RD W R ts d→Calls Tryz.prog 210 #[.pointer (some ⟨R,0,none⟩)] W (aX W R d res)) :
  Calls Tryz.prog 211 #[.pointer (some ⟨bx,0,none⟩),.pointer (some ⟨br,0,none⟩)] w (OutB B w R d res fun x v w'=>v=.tuple #[]∧bX bx br X L R k t n a (l ++ [x]) w'):=by
 cases res with
 | error q=>exact DF B bx br X L R d k a q.1 q.2 t n l ts w _ hQ hr (by obtain ⟨C,h⟩:=hQ.it; have:=h.lt; have:=h.le; have:=h.top; omega) hC
 | ok q=>exact Dx B bx br X L R d k a t n l q.1 ts q.2 w hQ hb hr hB hl hC
theorem CS (B bx br X L R d k a:Nat) (t:List UInt8) (n:Int) (l:List Item) (x:Item) (ts ts1:List Tok) (w:World) (hQ:bX bx br X L R k t n a l w) (hb:iN bx br X L R) (hr:RD w R ts d) (hB:B≤X) (hl:l.length≤100000)
  (hC:∀ W,RD W R ts d→Calls Tryz.prog 210 #[.pointer (some ⟨R,0,none⟩)] W (aX W R d (.ok (x,ts1)))) :
  Calls Tryz.prog 212 #[.pointer (some ⟨bx,0,none⟩),.pointer (some ⟨br,0,none⟩)] w (OutB B w R d (.ok (x,ts1):Rd) fun x v w'=>v=.tuple #[]∧bX bx br X L R k t n a (l ++ [x]) w'):=by
 have cx:w.cell? ⟨bx,0,none⟩=some (.pointer (some ⟨X,0,none⟩)):=hQ.bx.cell 0
 have cr:w.cell? ⟨br,0,none⟩=some (.pointer (some ⟨R,0,none⟩)):=hQ.br.cell 0
 obtain ⟨hbx,hbr,C,hit⟩:=hQ
 have lx:=hbx.lt
 have lr:=hbr.lt
 have HIT:=Lib.hid (hit.grow hit.top (Nat.le_refl _)).drew
 have HBX:Hid (Blk w.drew bx 93 #[.pointer (some ⟨X,0,none⟩)]):=Lib.hid hbx
 have HBR:Hid (Blk w.drew br 90 #[.pointer (some ⟨R,0,none⟩)]):=Lib.hid hbr
 have HB:=Lib.hid hb; have HR:=Lib.hid hr.drew
 have HC:=Lib.hid (fun W h=>(hC W h).mono (fun _ _=>aX.yes))
 clear hb hr hC hbx hbr hit
 go_enter Tryz.func212,Tryz.ntmps212
 go_region_held3 (fun w'=>w'.cell? ⟨bx,0,none⟩=some (.pointer (some ⟨X,0,none⟩))∧w'.cell? ⟨br,0,none⟩=some (.pointer (some ⟨R,0,none⟩)))
  (first | go_keep)
  (first
   | (go_at_call 210; refine (HC.out _ HR.out).mono ?_; rintro e w1 ⟨p,rfl,hi1,hr1,hk1⟩; have b1:=HBX.out.kept hk1 lx HB.out.xR; have b2:=HBR.out.kept hk1 lr HB.out.rR; have c1:w1.cell? ⟨bx,0,none⟩=some (.pointer (some ⟨X,0,none⟩)):=b1.cell 0; have c2:w1.cell? ⟨br,0,none⟩=some (.pointer (some ⟨R,0,none⟩)):=b2.cell 0; have l1:=b1.lt; have l2:=b2.lt; have BX1:=Lib.hid b1; have BR1:=Lib.hid b2; have IT1:=Lib.hid (HIT.out.keep hk1 (Nat.le_refl _) HB.out.RX); have HI1:=Lib.hid hi1; have HR1:=Lib.hid hr1; have HK1:=Lib.hid hk1; clear b1 b2 hi1 hr1 hk1)
   | (go_at_call 53; refine (fG X L w.drew.heap.size w1.heap.size 1 k a t n l [x] [p] _ (IT1.out.alloc _) (Blk.new w1 93 _) (KidsAt.one (HI1.out.alloc _)) rfl (by omega) (by omega)).mono ?_; rintro e w2 ⟨rfl,it2,k2⟩; have b1:=(BX1.out.alloc (.cells #[.pointer (some ⟨p,0,none⟩)] 93)).kept k2 HB.out.x HB.out.xX; have b2:=(BR1.out.alloc (.cells #[.pointer (some ⟨p,0,none⟩)] 93)).kept k2 HB.out.r HB.out.rX; have d1:w2.cell? ⟨bx,0,none⟩=some (.pointer (some ⟨X,0,none⟩)):=b1.cell 0; have d2:w2.cell? ⟨br,0,none⟩=some (.pointer (some ⟨R,0,none⟩)):=b2.cell 0; have BX2:=Lib.hid b1; have BR2:=Lib.hid b2; have IT2:=Lib.hid it2; have K2:=Lib.hid k2; clear b1 b2 it2 k2))
 go_wp2_with fail
 go_end0
 have hlt:=HIT.out.lt
 have hle:L≤w.heap.size:=HIT.out.le
 exact OutB.ok rfl ((((au.fD HK1.out).mono (by show B≤w.heap.size; omega)).alloc (by have:=HK1.out.size; have e:w.drew.heap.size=w.heap.size:=rfl; omega) _).trans (K2.out.item (B:=B) hB hlt) (Nat.le_refl _)) ((HR1.out.alloc _).item K2.out HB.out.RX hlt) ⟨rfl,BX2.out,BR2.out,_,IT2.out⟩
theorem Dy (B bx br X L R d k a p:Nat) (er:Int) (t:List UInt8) (n:Int) (l:List Item) (ts:List Tok) (w:World) (P:Item→Value→World→Prop) (hQ:bX bx br X L R k t n a l w) (hr:RD w R ts d) (hB:B≤w.heap.size)
  (hC:∀ W,RD W R ts d→Calls Tryz.prog 210 #[.pointer (some ⟨R,0,none⟩)] W (aX W R d (.error (p,er)))) :
  Calls Tryz.prog 212 #[.pointer (some ⟨bx,0,none⟩),.pointer (some ⟨br,0,none⟩)] w (OutB B w R d (.error (p,er):Rd) P):=by
 have cx:w.cell? ⟨bx,0,none⟩=some (.pointer (some ⟨X,0,none⟩)):=hQ.bx.cell 0
 have cr:w.cell? ⟨br,0,none⟩=some (.pointer (some ⟨R,0,none⟩)):=hQ.br.cell 0
 have HR:=Lib.hid hr.drew
 have HC:=Lib.hid (fun W h=>(hC W h).mono (fun _ _=>aX.no))
 clear hr hC hQ
 go_enter Tryz.func212,Tryz.ntmps212
 refine wp_region_held_drew (S:=fun w'=>w'.cell? ⟨bx,0,none⟩=some (.pointer (some ⟨X,0,none⟩))∧w'.cell? ⟨br,0,none⟩=some (.pointer (some ⟨R,0,none⟩))) (by kernel_rfl) ⟨cx,cr⟩ (fun hS=>?_)
 refine wpAnyH_take (i:=0) (v:=.pointer (some ⟨X,0,none⟩)) rfl (by kernel_rfl) (by kernel_rfl) (by kernel_rfl) (fun _ _ _ h=>h) (Or.inl ⟨by rfl,?_⟩) hS ?_
 ·intro W hW
  go_simp
 simp only [Act.put,List.setIfInBounds_toArray]
 refine wpAnyH_take (i:=1) (v:=.pointer (some ⟨R,0,none⟩)) rfl (by kernel_rfl) (by kernel_rfl) (by kernel_rfl) (fun _ _ _ h=>h) (Or.inl ⟨by rfl,?_⟩) hS ?_
 ·intro W hW
  go_simp
 simp only [Act.put]
 refine wpAnyH_ready (rs:=[2]) (by kernel_rfl) (by simp) ?_
 refine AllReadyH.cons rfl (fun K hK=>?_) .nil
 go_simp
 refine (HC.out _ HR.out).mono ?_
 rintro e w1 ⟨rfl,hk1⟩
 exact⟨rfl,OutB.err rfl ((au.fD hk1).mono hB)⟩
theorem Cs (B bx br X L R d k a:Nat) (t:List UInt8) (n:Int) (l:List Item) (res:Rd) (ts:List Tok) (w:World) (hQ:bX bx br X L R k t n a l w) (hb:iN bx br X L R) (hr:RD w R ts d) (hB:B≤X) (hl:l.length≤100000)
  (hC:∀ W,RD W R ts d→Calls Tryz.prog 210 #[.pointer (some ⟨R,0,none⟩)] W (aX W R d res)) :
  Calls Tryz.prog 212 #[.pointer (some ⟨bx,0,none⟩),.pointer (some ⟨br,0,none⟩)] w (OutB B w R d res fun x v w'=>v=.tuple #[]∧bX bx br X L R k t n a (l ++ [x]) w'):=by
 cases res with
 | error q=>exact Dy B bx br X L R d k a q.1 q.2 t n l ts w _ hQ hr (by obtain ⟨C,h⟩:=hQ.it; have:=h.lt; have:=h.le; have:=h.top; omega) hC
 | ok q=>exact CS B bx br X L R d k a t n l q.1 ts q.2 w hQ hb hr hB hl hC
theorem DR (B bx br X L R d k a:Nat) (t:List UInt8) (n:Int) (l:List Item) (x:Item) (ts ts1:List Tok) (w:World) (hQ:bX bx br X L R k t n a l w) (hb:iN bx br X L R) (hr:RD w R ts d) (hB:B≤X) (hl:l.length≤100000)
  (hC:∀ W,RD W R ts d→Calls Tryz.prog 210 #[.pointer (some ⟨R,0,none⟩)] W (aX W R d (.ok (x,ts1)))) :
  Calls Tryz.prog 248 #[.pointer (some ⟨bx,0,none⟩),.pointer (some ⟨br,0,none⟩)] w (OutB B w R d (.ok (x,ts1):Rd) fun x v w'=>v=.tuple #[]∧bX bx br X L R k t n a (l ++ [x]) w'):=by
 have cx:w.cell? ⟨bx,0,none⟩=some (.pointer (some ⟨X,0,none⟩)):=hQ.bx.cell 0
 have cr:w.cell? ⟨br,0,none⟩=some (.pointer (some ⟨R,0,none⟩)):=hQ.br.cell 0
 obtain ⟨hbx,hbr,C,hit⟩:=hQ
 have lx:=hbx.lt
 have lr:=hbr.lt
 have HIT:=Lib.hid (hit.grow hit.top (Nat.le_refl _)).drew
 have HBX:Hid (Blk w.drew bx 93 #[.pointer (some ⟨X,0,none⟩)]):=Lib.hid hbx
 have HBR:Hid (Blk w.drew br 90 #[.pointer (some ⟨R,0,none⟩)]):=Lib.hid hbr
 have HB:=Lib.hid hb; have HR:=Lib.hid hr.drew
 have HC:=Lib.hid (fun W h=>(hC W h).mono (fun _ _=>aX.yes))
 clear hb hr hC hbx hbr hit
 go_enter Tryz.func248,Tryz.ntmps248
 go_region_held3 (fun w'=>w'.cell? ⟨bx,0,none⟩=some (.pointer (some ⟨X,0,none⟩))∧w'.cell? ⟨br,0,none⟩=some (.pointer (some ⟨R,0,none⟩)))
  (first | go_keep)
  (first
   | (go_at_call 210; refine (HC.out _ HR.out).mono ?_; rintro e w1 ⟨p,rfl,hi1,hr1,hk1⟩; have b1:=HBX.out.kept hk1 lx HB.out.xR; have b2:=HBR.out.kept hk1 lr HB.out.rR; have c1:w1.cell? ⟨bx,0,none⟩=some (.pointer (some ⟨X,0,none⟩)):=b1.cell 0; have c2:w1.cell? ⟨br,0,none⟩=some (.pointer (some ⟨R,0,none⟩)):=b2.cell 0; have l1:=b1.lt; have l2:=b2.lt; have BX1:=Lib.hid b1; have BR1:=Lib.hid b2; have IT1:=Lib.hid (HIT.out.keep hk1 (Nat.le_refl _) HB.out.RX); have HI1:=Lib.hid hi1; have HR1:=Lib.hid hr1; have HK1:=Lib.hid hk1; clear b1 b2 hi1 hr1 hk1)
   | (go_at_call 53; refine (fG X L w.drew.heap.size w1.heap.size 1 k a t n l [x] [p] _ (IT1.out.alloc _) (Blk.new w1 93 _) (KidsAt.one (HI1.out.alloc _)) rfl (by omega) (by omega)).mono ?_; rintro e w2 ⟨rfl,it2,k2⟩; have b1:=(BX1.out.alloc (.cells #[.pointer (some ⟨p,0,none⟩)] 93)).kept k2 HB.out.x HB.out.xX; have b2:=(BR1.out.alloc (.cells #[.pointer (some ⟨p,0,none⟩)] 93)).kept k2 HB.out.r HB.out.rX; have d1:w2.cell? ⟨bx,0,none⟩=some (.pointer (some ⟨X,0,none⟩)):=b1.cell 0; have d2:w2.cell? ⟨br,0,none⟩=some (.pointer (some ⟨R,0,none⟩)):=b2.cell 0; have BX2:=Lib.hid b1; have BR2:=Lib.hid b2; have IT2:=Lib.hid it2; have K2:=Lib.hid k2; clear b1 b2 it2 k2))
 go_wp2_with fail
 go_end0
 have hlt:=HIT.out.lt
 have hle:L≤w.heap.size:=HIT.out.le
 exact OutB.ok rfl ((((au.fD HK1.out).mono (by show B≤w.heap.size; omega)).alloc (by have:=HK1.out.size; have e:w.drew.heap.size=w.heap.size:=rfl; omega) _).trans (K2.out.item (B:=B) hB hlt) (Nat.le_refl _)) ((HR1.out.alloc _).item K2.out HB.out.RX hlt) ⟨rfl,BX2.out,BR2.out,_,IT2.out⟩
theorem D6 (B bx br X L R d k a p:Nat) (er:Int) (t:List UInt8) (n:Int) (l:List Item) (ts:List Tok) (w:World) (P:Item→Value→World→Prop) (hQ:bX bx br X L R k t n a l w) (hr:RD w R ts d) (hB:B≤w.heap.size)
  (hC:∀ W,RD W R ts d→Calls Tryz.prog 210 #[.pointer (some ⟨R,0,none⟩)] W (aX W R d (.error (p,er)))) :
  Calls Tryz.prog 248 #[.pointer (some ⟨bx,0,none⟩),.pointer (some ⟨br,0,none⟩)] w (OutB B w R d (.error (p,er):Rd) P):=by
 have cx:w.cell? ⟨bx,0,none⟩=some (.pointer (some ⟨X,0,none⟩)):=hQ.bx.cell 0
 have cr:w.cell? ⟨br,0,none⟩=some (.pointer (some ⟨R,0,none⟩)):=hQ.br.cell 0
 have HR:=Lib.hid hr.drew
 have HC:=Lib.hid (fun W h=>(hC W h).mono (fun _ _=>aX.no))
 clear hr hC hQ
 go_enter Tryz.func248,Tryz.ntmps248
 refine wp_region_held_drew (S:=fun w'=>w'.cell? ⟨bx,0,none⟩=some (.pointer (some ⟨X,0,none⟩))∧w'.cell? ⟨br,0,none⟩=some (.pointer (some ⟨R,0,none⟩))) (by kernel_rfl) ⟨cx,cr⟩ (fun hS=>?_)
 refine wpAnyH_take (i:=0) (v:=.pointer (some ⟨X,0,none⟩)) rfl (by kernel_rfl) (by kernel_rfl) (by kernel_rfl) (fun _ _ _ h=>h) (Or.inl ⟨by rfl,?_⟩) hS ?_
 ·intro W hW
  go_simp
 simp only [Act.put,List.setIfInBounds_toArray]
 refine wpAnyH_take (i:=1) (v:=.pointer (some ⟨R,0,none⟩)) rfl (by kernel_rfl) (by kernel_rfl) (by kernel_rfl) (fun _ _ _ h=>h) (Or.inl ⟨by rfl,?_⟩) hS ?_
 ·intro W hW
  go_simp
 simp only [Act.put]
 refine wpAnyH_ready (rs:=[2]) (by kernel_rfl) (by simp) ?_
 refine AllReadyH.cons rfl (fun K hK=>?_) .nil
 go_simp
 refine (HC.out _ HR.out).mono ?_
 rintro e w1 ⟨rfl,hk1⟩
 exact⟨rfl,OutB.err rfl ((au.fD hk1).mono hB)⟩
theorem Bl (B bx br X L R d k a:Nat) (t:List UInt8) (n:Int) (l:List Item) (res:Rd) (ts:List Tok) (w:World) (hQ:bX bx br X L R k t n a l w) (hb:iN bx br X L R) (hr:RD w R ts d) (hB:B≤X) (hl:l.length≤100000)
  (hC:∀ W,RD W R ts d→Calls Tryz.prog 210 #[.pointer (some ⟨R,0,none⟩)] W (aX W R d res)) :
  Calls Tryz.prog 248 #[.pointer (some ⟨bx,0,none⟩),.pointer (some ⟨br,0,none⟩)] w (OutB B w R d res fun x v w'=>v=.tuple #[]∧bX bx br X L R k t n a (l ++ [x]) w'):=by
 cases res with
 | error q=>exact D6 B bx br X L R d k a q.1 q.2 t n l ts w _ hQ hr (by obtain ⟨C,h⟩:=hQ.it; have:=h.lt; have:=h.le; have:=h.top; omega) hC
 | ok q=>exact DR B bx br X L R d k a t n l q.1 ts q.2 w hQ hb hr hB hl hC
end Go.Proofs.YtkkeocnnecegbaaGreatDoor
