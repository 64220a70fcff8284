/- Joint text: PwH. By an AI agent. -/
import Derived.Test.YtkkeocnnecegbaaGreatDoorQ09
set_option linter.all false
set_option maxRecDepth 100000
set_option maxHeartbeats 64000000
namespace Go.Proofs.YtkkeocnnecegbaaGreatDoor
open Go.RowKit
theorem dx.far {w:World} {F:Nat→Prop} {p:Nat} {x:Item} (h:dx w F p x) {a:Addr} (ha:∀ j,F j→j≠a.block) (u:Value):dx (w.setCell a u) F p x:=h.keep (fun j hj _=>Below.heap_setCell _ _ _ _ (ha j hj))
theorem aO.fresh {w:World} {X k a:Nat} {t:List UInt8} {n:Int} (h:Blk w X 160 #[.int .u8 k,.string ⟨t.toArray⟩,.int .i64 n,.int .i64 a,.slice none 0 0,.slice none 0 0]):aO w X w.heap.size w.heap.size (.mk k t n a []):=aO.new h h.lt (Nat.le_refl _)
theorem IQ (f R d:Nat) (ts:List Tok) (w:World) (h:RD w R ts d) (hi:aj ts=3) :
  Calls Tryz.prog 246 #[.pointer (some ⟨R,0,none⟩)] w (aX w R d (cB (f+1) d ts)):=by
 obtain ⟨t,r,rfl⟩:=h.fin.cons
 have hU:cB (f+1) d (t :: r)=.ok (.mk 17 [] t.n t.at' [],r):=by
  conv=>lhs; unfold cB
  rw [if_pos hi]; rfl
 have hk3:t.kind=3:=hi
 have H:=Lib.hid h; have HU:=Lib.hid hU; have HK3:=Lib.hid hk3
 clear h hi hU hk3
 have f0:=mH
 have f2:=Gr
 go_enter Tryz.func246,Tryz.ntmps246
 go_wp2_with fail
 refine (dX R d 17 (t :: r) _ ((H.out.alloc _).alloc _)).mono ?_; rintro e w1 ⟨X,rfl,hX,hb1,hk1⟩
 have hRw:=H.out.lt.1
 have hXw:w.heap.size+1<X:=by simp at hX; omega
 have BX1:Blk w1 (w.heap.size+1) 93 #[.pointer none]:=by
  have:=(Blk.new (w.alloc (.cells #[.pointer (some ⟨R,0,none⟩)] 90)) 93 #[.pointer none]).below hk1
  simpa using this
 have BR1:Blk w1 w.heap.size 90 #[.pointer (some ⟨R,0,none⟩)]:=((Blk.new w 90 _).alloc _).below hk1
 have c1:w1.cell? ⟨w.heap.size,0,none⟩=some (.pointer (some ⟨R,0,none⟩)):=BR1.cell 0
 have c2:w1.cell? ⟨w.heap.size+1,0,none⟩=some (.pointer none):=BX1.cell 0
 have c3:=BX1.free 0
 have l1:=BX1.lt
 have HBX:=Lib.hid hb1; have HBX1:=Lib.hid BX1; have HBR1:=Lib.hid BR1
 have HK1:Hid (au w.heap.size R w w1):=Lib.hid ((((au.refl _ R w).alloc (Nat.le_refl _) (.cells #[.pointer (some ⟨R,0,none⟩)] 90)).alloc (by simp) (.cells #[.pointer none] 93)).below hk1 (by simp; omega))
 have HR1:=Lib.hid (((H.out.alloc (.cells #[.pointer (some ⟨R,0,none⟩)] 90)).alloc (.cells #[.pointer none] 93)).below hk1 (by simp; omega))
 clear hb1 hk1 BX1 BR1 hX
 go_wp2_with fail
 have nX:¬ X=w.heap.size+1:=by omega
 have BX2:=HBX1.out.put 0 (.pointer (some ⟨X,0,none⟩))
 have HBX2:Hid (Blk (w1.setCell ⟨w.heap.size+1,0,none⟩ (.pointer (some ⟨X,0,none⟩))) (w.heap.size+1) 93 #[.pointer (some ⟨X,0,none⟩)]):=Lib.hid BX2
 have HBR2:=Lib.hid (HBR1.out.far (g':=w.heap.size+1) (by omega) 0 (.pointer (some ⟨X,0,none⟩)))
 have HX2:=Lib.hid (HBX.out.far nX 0 (.pointer (some ⟨X,0,none⟩)))
 have HR2:=Lib.hid (HR1.out.set (p:=⟨w.heap.size+1,0,none⟩) (by show R<w.heap.size+1; omega) (.pointer (some ⟨X,0,none⟩)))
 have HK2:=Lib.hid (HK1.out.setCell (p:=⟨w.heap.size+1,0,none⟩) (Or.inr (by show w.heap.size≤w.heap.size+1; omega)) (.pointer (some ⟨X,0,none⟩)))
 clear BX2 HBX1 HBR1 HBX HR1 HK1 c1 c2 c3 l1
 generalize w1.setCell ⟨w.heap.size+1,0,none⟩ (.pointer (some ⟨X,0,none⟩))=W2 at *
 refine (dP R t r d _ HR2.out).mono ?_; rintro e w3 ⟨rfl,hb3⟩; unfold eY
 have hs3:=hb3.size
 have HBX3:=Lib.hid (HBX2.out.below hb3); have HBR3:=Lib.hid (HBR2.out.below hb3); have HX3:=Lib.hid (HX2.out.below hb3); have HR3:=Lib.hid (HR2.out.below hb3 HR2.out.lt.1); have HK3':=Lib.hid (HK2.out.below hb3 HK2.out.size)
 clear hb3 HBX2 HBR2 HX2 HR2 HK2
 have c1:w3.cell? ⟨w.heap.size,0,none⟩=some (.pointer (some ⟨R,0,none⟩)):=HBR3.out.cell 0
 have c2:w3.cell? ⟨w.heap.size+1,0,none⟩=some (.pointer (some ⟨X,0,none⟩)):=HBX3.out.cell 0
 have k3:((t.kind:Int) == 3)=true:=by simp [HK3.out]
 go_wp2_with fail
 have HX3d:Hid (Blk w3.drew X 160 _):=HX3
 have HBX3d:Hid (Blk w3.drew (w.heap.size+1) 93 _):=HBX3
 have HBR3d:Hid (Blk w3.drew w.heap.size 90 _):=HBR3
 have lb:w.heap.size+1<w3.heap.size:=HBX3.out.lt
 have lX:X<w3.heap.size:=HX3.out.lt
 have n1:¬ w.heap.size+1=X:=by omega
 have n2:¬ X=w.heap.size:=by omega
 have n3:¬ w.heap.size=X:=by omega
 go_region_held3 (fun w'=>w'.cell? ⟨w.heap.size,0,none⟩=some (.pointer (some ⟨R,0,none⟩))∧w'.cell? ⟨w.heap.size+1,0,none⟩=some (.pointer (some ⟨X,0,none⟩)))
  (first | go_keep)
  (first
   | (go_at_call 92; refine (kJ R t r d _ HR3.out.drew (by have:=HK3.out; omega)).mono ?_; rintro e w4 ⟨rfl,hr4,hk4⟩; unfold eY; have b1:=HBX3d.out.kept hk4 (by exact lb) (by omega); have b2:=HBR3d.out.kept hk4 (by show w.heap.size<w3.heap.size; omega) (by omega); have b3:=HX3d.out.kept hk4 (by exact lX) (by omega); have e1:w4.cell? ⟨w.heap.size,0,none⟩=some (.pointer (some ⟨R,0,none⟩)):=b2.cell 0; have e2:w4.cell? ⟨w.heap.size+1,0,none⟩=some (.pointer (some ⟨X,0,none⟩)):=b1.cell 0; have e3:w4.cell? ⟨X,2,none⟩=some (.int .i64 0):=b3.cell 2; have e4:=b3.free 2; have e5:=b1.free 0; have HBX4:=Lib.hid b1; have HX4:=Lib.hid b3; have HR4:=Lib.hid hr4; have HK4:=Lib.hid (HK3'.out.trans (au.fD hk4) HK3'.out.size); clear b1 b2 b3 hr4 hk4))
 go_wp2_with fail
 refine bodyPost_ret (v:=.pointer (some ⟨X,0,none⟩)) ?_ rfl (OutB.ok (x:=.mk 17 [] t.n t.at' []) (ts:=r) HU.out ?_ ?_ ⟨X,rfl,?_⟩)
 ·simp [results,Tryz.results246,go_sem,e2]
 ·exact (HK4.out.setCell (p:=⟨X,2,none⟩) (Or.inr (by show w.heap.size≤X; omega)) _).setCell (p:=⟨w.heap.size+1,0,none⟩) (Or.inr (by show w.heap.size≤w.heap.size+1; omega)) _
 ·exact (HR4.out.set (p:=⟨X,2,none⟩) (by show R<X; omega) _).set (p:=⟨w.heap.size+1,0,none⟩) (by show R<w.heap.size+1; omega) _
 ·exact ((((aO.fresh HX4.out).num t.n).close.far (a:=⟨w.heap.size+1,0,none⟩) (fun j hj=>by show j≠w.heap.size+1; omega) _).mono (fun j hj _=>by omega))
theorem yZ (f R d:Nat) (ts:List Tok) (w:World) (h:RD w R ts d) (hi:aj ts=1) (hn:isT [91] ts.tail=false) :
  Calls Tryz.prog 246 #[.pointer (some ⟨R,0,none⟩)] w (aX w R d (cB (f+1) d ts)):=by
 obtain ⟨t,r,rfl⟩:=h.fin.cons
 have hU:cB (f+1) d (t :: r)=.ok (.mk 18 t.text 0 t.at' [],r):=by
  conv=>lhs; unfold cB
  rw [if_neg (by rw [hi]; omega),if_pos hi,if_neg (by rw [hn]; simp)]; rfl
 have hk3:t.kind=1:=hi
 have HN:=Lib.hid (show isT [91] r=false from hn)
 have H:=Lib.hid h; have HU:=Lib.hid hU; have HK3:=Lib.hid hk3
 clear h hi hU hk3 hn
 have f0:=mH
 have f1:=qW
 go_enter Tryz.func246,Tryz.ntmps246
 go_wp2_with fail
 refine (dX R d 17 (t :: r) _ ((H.out.alloc _).alloc _)).mono ?_; rintro e w1 ⟨X,rfl,hX,hb1,hk1⟩
 have hRw:=H.out.lt.1
 have hXw:w.heap.size+1<X:=by simp at hX; omega
 have BX1:Blk w1 (w.heap.size+1) 93 #[.pointer none]:=by
  have:=(Blk.new (w.alloc (.cells #[.pointer (some ⟨R,0,none⟩)] 90)) 93 #[.pointer none]).below hk1
  simpa using this
 have BR1:Blk w1 w.heap.size 90 #[.pointer (some ⟨R,0,none⟩)]:=((Blk.new w 90 _).alloc _).below hk1
 have c1:w1.cell? ⟨w.heap.size,0,none⟩=some (.pointer (some ⟨R,0,none⟩)):=BR1.cell 0
 have c2:w1.cell? ⟨w.heap.size+1,0,none⟩=some (.pointer none):=BX1.cell 0
 have c3:=BX1.free 0
 have l1:=BX1.lt
 have HBX:=Lib.hid hb1; have HBX1:=Lib.hid BX1; have HBR1:=Lib.hid BR1
 have HK1:Hid (au w.heap.size R w w1):=Lib.hid ((((au.refl _ R w).alloc (Nat.le_refl _) (.cells #[.pointer (some ⟨R,0,none⟩)] 90)).alloc (by simp) (.cells #[.pointer none] 93)).below hk1 (by simp; omega))
 have HR1:=Lib.hid (((H.out.alloc (.cells #[.pointer (some ⟨R,0,none⟩)] 90)).alloc (.cells #[.pointer none] 93)).below hk1 (by simp; omega))
 clear hb1 hk1 BX1 BR1 hX
 go_wp2_with fail
 have nX:¬ X=w.heap.size+1:=by omega
 have BX2:=HBX1.out.put 0 (.pointer (some ⟨X,0,none⟩))
 have HBX2:Hid (Blk (w1.setCell ⟨w.heap.size+1,0,none⟩ (.pointer (some ⟨X,0,none⟩))) (w.heap.size+1) 93 #[.pointer (some ⟨X,0,none⟩)]):=Lib.hid BX2
 have HBR2:=Lib.hid (HBR1.out.far (g':=w.heap.size+1) (by omega) 0 (.pointer (some ⟨X,0,none⟩)))
 have HX2:=Lib.hid (HBX.out.far nX 0 (.pointer (some ⟨X,0,none⟩)))
 have HR2:=Lib.hid (HR1.out.set (p:=⟨w.heap.size+1,0,none⟩) (by show R<w.heap.size+1; omega) (.pointer (some ⟨X,0,none⟩)))
 have HK2:=Lib.hid (HK1.out.setCell (p:=⟨w.heap.size+1,0,none⟩) (Or.inr (by show w.heap.size≤w.heap.size+1; omega)) (.pointer (some ⟨X,0,none⟩)))
 clear BX2 HBX1 HBR1 HBX HR1 HK1 c1 c2 c3 l1
 generalize w1.setCell ⟨w.heap.size+1,0,none⟩ (.pointer (some ⟨X,0,none⟩))=W2 at *
 refine (dP R t r d _ HR2.out).mono ?_; rintro e w3 ⟨rfl,hb3⟩; unfold eY
 have hs3:=hb3.size
 have HBX3:=Lib.hid (HBX2.out.below hb3); have HBR3:=Lib.hid (HBR2.out.below hb3); have HX3:=Lib.hid (HX2.out.below hb3); have HR3:=Lib.hid (HR2.out.below hb3 HR2.out.lt.1); have HK3':=Lib.hid (HK2.out.below hb3 HK2.out.size)
 clear hb3 HBX2 HBR2 HX2 HR2 HK2
 have c1:w3.cell? ⟨w.heap.size,0,none⟩=some (.pointer (some ⟨R,0,none⟩)):=HBR3.out.cell 0
 have c2:w3.cell? ⟨w.heap.size+1,0,none⟩=some (.pointer (some ⟨X,0,none⟩)):=HBX3.out.cell 0
 have k3:((t.kind:Int) == 3)=false:=by simp [HK3.out]
 have k1:((t.kind:Int) == 1)=true:=by simp [HK3.out]
 go_wp2_with fail
 have HX3d:Hid (Blk w3.drew X 160 #[.int .u8 (17:Nat),.string ⟨([]:List UInt8).toArray⟩,.int .i64 0,.int .i64 t.at',.slice none 0 0,.slice none 0 0]):=HX3
 have HBX3d:Hid (Blk w3.drew (w.heap.size+1) 93 _):=HBX3
 have HBR3d:Hid (Blk w3.drew w.heap.size 90 _):=HBR3
 have lb:w.heap.size+1<w3.heap.size:=HBX3.out.lt
 have lX:X<w3.heap.size:=HX3.out.lt
 have n1:¬ w.heap.size+1=X:=by omega
 have n2:¬ X=w.heap.size:=by omega
 have n3:¬ w.heap.size=X:=by omega
 have x0:w3.drew.cell? ⟨X,0,none⟩=some (.int .u8 (17:Nat)):=HX3d.out.cell 0
 have x1:=HX3d.out.free 0
 have hRX:R<X:=by omega
 have CALL:Hid (∀ W,RD W R (t :: r) d→Calls Tryz.prog 91 #[.pointer (some ⟨R,0,none⟩)] W fun e w'=>e=.returned (.string ⟨t.text.toArray⟩)∧RD w' R r d∧au W.heap.size R W w'):=Lib.hid (fun W hW=>gI hW HK3.out)
 go_region_held3 (fun w'=>w'.cell? ⟨w.heap.size,0,none⟩=some (.pointer (some ⟨R,0,none⟩))∧w'.cell? ⟨w.heap.size+1,0,none⟩=some (.pointer (some ⟨X,0,none⟩)))
  (first | go_keep)
  (first
   | (go_at_call 91; refine (CALL.out _ HR3.out.drew).mono ?_; rintro e w4 ⟨rfl,hr4,hk4⟩; have b1:=HBX3d.out.kept hk4 (by exact lb) (by omega); have b2:=HBR3d.out.kept hk4 (by show w.heap.size<w3.heap.size; omega) (by omega); have b3:=HX3d.out.kept hk4 (by exact lX) (by omega); have e1:w4.cell? ⟨w.heap.size,0,none⟩=some (.pointer (some ⟨R,0,none⟩)):=b2.cell 0; have e2:w4.cell? ⟨w.heap.size+1,0,none⟩=some (.pointer (some ⟨X,0,none⟩)):=b1.cell 0; have e3:w4.cell? ⟨X,0,none⟩=some (.int .u8 (17:Nat)):=b3.cell 0; have e4:=b3.free 0; have e6:w4.cell? ⟨X,1,none⟩=some (.string ⟨([]:List UInt8).toArray⟩):=b3.cell 1; have e7:=b3.free 1; have e5:=b1.free 0; have HBX4:=Lib.hid b1; have HBR4:=Lib.hid b2; have HX4:=Lib.hid ((aO.fresh b3).kind 18); have HR4:=Lib.hid hr4; have HK4:=Lib.hid (HK3'.out.trans (au.fD hk4) HK3'.out.size); clear b1 b2 b3 hr4 hk4))
 have HX5:=Lib.hid (HX4.out.text t.text)
 have HBX5:=Lib.hid ((HBX4.out.far n1 0 (.int .u8 (18:Nat))).far n1 1 (.string ⟨t.text.toArray⟩))
 have HBR5:=Lib.hid ((HBR4.out.far n3 0 (.int .u8 (18:Nat))).far n3 1 (.string ⟨t.text.toArray⟩))
 have HR5:=Lib.hid ((HR4.out.set (p:=⟨X,0,none⟩) hRX (.int .u8 (18:Nat))).set (p:=⟨X,1,none⟩) hRX (.string ⟨t.text.toArray⟩))
 have HK5:=Lib.hid ((HK4.out.setCell (p:=⟨X,0,none⟩) (Or.inr (by show w.heap.size≤X; omega)) (.int .u8 (18:Nat))).setCell (p:=⟨X,1,none⟩) (Or.inr (by show w.heap.size≤X; omega)) (.string ⟨t.text.toArray⟩))
 have hc18:(Value.int .u8 18)=.int .u8 ((18:Nat):Int):=rfl
 rw [hc18]
 clear hc18 HX4 HBX4 HBR4 HR4 HK4
 generalize (w4.setCell ⟨X,0,none⟩ (.int .u8 ((18:Nat):Int))).setCell ⟨X,1,none⟩ (.string ⟨t.text.toArray⟩)=W5 at *
 clear e1 e2 e3 e4 e5 e6 e7 x0 x1
 have e1:W5.cell? ⟨w.heap.size,0,none⟩=some (.pointer (some ⟨R,0,none⟩)):=HBR5.out.cell 0
 have e2:W5.cell? ⟨w.heap.size+1,0,none⟩=some (.pointer (some ⟨X,0,none⟩)):=HBX5.out.cell 0
 obtain ⟨t2,r2,hr2⟩:=HR5.out.fin.cons
 have HR2:=Lib.hid hr2
 clear hr2
 go_wp2_with fail
 refine (dH R t2 r2 d [91] _ (by rw [← HR2.out]; exact HR5.out)).mono ?_; rintro e w6 ⟨rfl,hb6⟩; rw [← HR2.out,HN.out]
 have HK6:=Lib.hid (HK5.out.below hb6 HK5.out.size)
 have HX6:=Lib.hid (HX5.out.keep (.of hb6) HX5.out.top hRX)
 have HR6:=Lib.hid (HR5.out.below hb6 HR5.out.lt.1)
 have bx6:=HBX5.out.below hb6
 have g2:w6.cell? ⟨w.heap.size+1,0,none⟩=some (.pointer (some ⟨X,0,none⟩)):=bx6.cell 0
 have g5:=bx6.free 0
 clear hb6 bx6 e1 e2
 go_wp2_with fail
 refine bodyPost_ret (v:=.pointer (some ⟨X,0,none⟩)) ?_ rfl (OutB.ok (x:=.mk 18 t.text 0 t.at' []) (ts:=r) HU.out ?_ ?_ ⟨X,rfl,?_⟩)
 ·simp [results,Tryz.results246,go_sem,g2]
 ·exact HK6.out.setCell (p:=⟨w.heap.size+1,0,none⟩) (Or.inr (by show w.heap.size≤w.heap.size+1; omega)) _
 ·exact HR6.out.set (p:=⟨w.heap.size+1,0,none⟩) (by show R<w.heap.size+1; omega) _
 ·exact ((HX6.out.close.far (a:=⟨w.heap.size+1,0,none⟩) (fun j hj=>by show j≠w.heap.size+1; omega) _).mono (fun j hj _=>by omega))
theorem tT {R d:Nat} {res:Rd} {w:World} (h:Calls Tryz.prog 230 #[.pointer (some ⟨R,0,none⟩),.int .i64 1] w (aX w R d res)):Calls Tryz.prog 210 #[.pointer (some ⟨R,0,none⟩)] w (aX w R d res):=by
 have H:=Lib.hid h; clear h
 go_enter Tryz.func210,Tryz.ntmps210
 go_wp2_with fail
 refine H.out.mono ?_
 cases res with
 | error q =>
  rintro e w' ho
  obtain ⟨rfl,hk⟩:=ho.no
  exact⟨rfl,OutB.err rfl hk⟩
 | ok q =>
  rintro e w' ho
  obtain ⟨p,rfl,hi,hr,hk⟩:=ho.yes
  go_wp2_with fail
  go_ret
  exact OutB.ok rfl hk hr ⟨p,rfl,hi⟩
theorem Gx (cap:Array Value) (W:World):(callFunc 248 cap).run Tryz.prog W=.ok (.enter 248 cap) W:=by kernel_rfl
theorem Fu (cap:Array Value) (W:World):(callFunc 249 cap).run Tryz.prog W=.ok (.enter 249 cap) W:=by kernel_rfl
theorem fac_name_yes (f R d:Nat) (ts:List Tok) (w:World) (h:RD w R ts d) (hi:aj ts=1) (hn:isT [91] ts.tail=true) (hd:d≤64) (ih:∀ W ts',RD W R ts' (d+1)→d+1≤64→binS f 1 (d+1) ts'≠.error aI→Calls Tryz.prog 230 #[.pointer (some ⟨R,0,none⟩),.int .i64 1] W (aX W R (d+1) (binS f 1 (d+1) ts'))) (hne:cB (f+1) d ts≠.error aI) :
  Calls Tryz.prog 246 #[.pointer (some ⟨R,0,none⟩)] w (aX w R d (cB (f+1) d ts)):=by
 obtain ⟨t,r,rfl⟩:=h.fin.cons
 have hU:cB (f+1) d (t :: r)=match withinR [91] [93] d (binS f 1 (d+1)) r with
  | .error e=>.error e
  | .ok (x,r2)=>.ok (.mk 19 t.text 0 t.at' [x],r2):=by
  conv=>lhs; unfold cB
  rw [if_neg (by rw [hi]; omega),if_pos hi,if_pos hn]
  unfold withinR
  show (match aR [91] d r with | .error e=>_ | .ok ts1=>_)=_
  cases aR [91] d r with
  | error e=>rfl
  | ok ts1 =>
   simp only []
   cases binS f 1 (d+1) ts1 with
   | error e=>rfl
   | ok v =>
    obtain ⟨x,ts2⟩:=v
    simp only []
    rw [if_neg (by simp)]
    cases af [93] ts2 <;> rfl
 have hk3:t.kind=1:=hi
 have HN:=Lib.hid (show isT [91] r=true from hn)
 have IH:=Lib.hid ih; have HNE:=Lib.hid hne
 have H:=Lib.hid h; have HU:=Lib.hid hU; have HK3:=Lib.hid hk3
 clear h hi hU hk3 hn ih hne
 have f0:=mH
 have f1:=qW
 go_enter Tryz.func246,Tryz.ntmps246
 go_wp2_with fail
 refine (dX R d 17 (t :: r) _ ((H.out.alloc _).alloc _)).mono ?_; rintro e w1 ⟨X,rfl,hX,hb1,hk1⟩
 have hRw:=H.out.lt.1
 have hXw:w.heap.size+1<X:=by simp at hX; omega
 have BX1:Blk w1 (w.heap.size+1) 93 #[.pointer none]:=by
  have:=(Blk.new (w.alloc (.cells #[.pointer (some ⟨R,0,none⟩)] 90)) 93 #[.pointer none]).below hk1
  simpa using this
 have BR1:Blk w1 w.heap.size 90 #[.pointer (some ⟨R,0,none⟩)]:=((Blk.new w 90 _).alloc _).below hk1
 have c1:w1.cell? ⟨w.heap.size,0,none⟩=some (.pointer (some ⟨R,0,none⟩)):=BR1.cell 0
 have c2:w1.cell? ⟨w.heap.size+1,0,none⟩=some (.pointer none):=BX1.cell 0
 have c3:=BX1.free 0
 have l1:=BX1.lt
 have HBX:=Lib.hid hb1; have HBX1:=Lib.hid BX1; have HBR1:=Lib.hid BR1
 have HK1:Hid (au w.heap.size R w w1):=Lib.hid ((((au.refl _ R w).alloc (Nat.le_refl _) (.cells #[.pointer (some ⟨R,0,none⟩)] 90)).alloc (by simp) (.cells #[.pointer none] 93)).below hk1 (by simp; omega))
 have HR1:=Lib.hid (((H.out.alloc (.cells #[.pointer (some ⟨R,0,none⟩)] 90)).alloc (.cells #[.pointer none] 93)).below hk1 (by simp; omega))
 clear hb1 hk1 BX1 BR1 hX
 go_wp2_with fail
 have nX:¬ X=w.heap.size+1:=by omega
 have BX2:=HBX1.out.put 0 (.pointer (some ⟨X,0,none⟩))
 have HBX2:Hid (Blk (w1.setCell ⟨w.heap.size+1,0,none⟩ (.pointer (some ⟨X,0,none⟩))) (w.heap.size+1) 93 #[.pointer (some ⟨X,0,none⟩)]):=Lib.hid BX2
 have HBR2:=Lib.hid (HBR1.out.far (g':=w.heap.size+1) (by omega) 0 (.pointer (some ⟨X,0,none⟩)))
 have HX2:=Lib.hid (HBX.out.far nX 0 (.pointer (some ⟨X,0,none⟩)))
 have HR2:=Lib.hid (HR1.out.set (p:=⟨w.heap.size+1,0,none⟩) (by show R<w.heap.size+1; omega) (.pointer (some ⟨X,0,none⟩)))
 have HK2:=Lib.hid (HK1.out.setCell (p:=⟨w.heap.size+1,0,none⟩) (Or.inr (by show w.heap.size≤w.heap.size+1; omega)) (.pointer (some ⟨X,0,none⟩)))
 clear BX2 HBX1 HBR1 HBX HR1 HK1 c1 c2 c3 l1
 generalize w1.setCell ⟨w.heap.size+1,0,none⟩ (.pointer (some ⟨X,0,none⟩))=W2 at *
 refine (dP R t r d _ HR2.out).mono ?_; rintro e w3 ⟨rfl,hb3⟩; unfold eY
 have hs3:=hb3.size
 have HBX3:=Lib.hid (HBX2.out.below hb3); have HBR3:=Lib.hid (HBR2.out.below hb3); have HX3:=Lib.hid (HX2.out.below hb3); have HR3:=Lib.hid (HR2.out.below hb3 HR2.out.lt.1); have HK3':=Lib.hid (HK2.out.below hb3 HK2.out.size)
 clear hb3 HBX2 HBR2 HX2 HR2 HK2
 have c1:w3.cell? ⟨w.heap.size,0,none⟩=some (.pointer (some ⟨R,0,none⟩)):=HBR3.out.cell 0
 have c2:w3.cell? ⟨w.heap.size+1,0,none⟩=some (.pointer (some ⟨X,0,none⟩)):=HBX3.out.cell 0
 have k3:((t.kind:Int) == 3)=false:=by simp [HK3.out]
 have k1:((t.kind:Int) == 1)=true:=by simp [HK3.out]
 go_wp2_with fail
 have HX3d:Hid (Blk w3.drew X 160 #[.int .u8 (17:Nat),.string ⟨([]:List UInt8).toArray⟩,.int .i64 0,.int .i64 t.at',.slice none 0 0,.slice none 0 0]):=HX3
 have HBX3d:Hid (Blk w3.drew (w.heap.size+1) 93 _):=HBX3
 have HBR3d:Hid (Blk w3.drew w.heap.size 90 _):=HBR3
 have lb:w.heap.size+1<w3.heap.size:=HBX3.out.lt
 have lX:X<w3.heap.size:=HX3.out.lt
 have n1:¬ w.heap.size+1=X:=by omega
 have n2:¬ X=w.heap.size:=by omega
 have n3:¬ w.heap.size=X:=by omega
 have x0:w3.drew.cell? ⟨X,0,none⟩=some (.int .u8 (17:Nat)):=HX3d.out.cell 0
 have x1:=HX3d.out.free 0
 have hRX:R<X:=by omega
 have CALL:Hid (∀ W,RD W R (t :: r) d→Calls Tryz.prog 91 #[.pointer (some ⟨R,0,none⟩)] W fun e w'=>e=.returned (.string ⟨t.text.toArray⟩)∧RD w' R r d∧au W.heap.size R W w'):=Lib.hid (fun W hW=>gI hW HK3.out)
 go_region_held3 (fun w'=>w'.cell? ⟨w.heap.size,0,none⟩=some (.pointer (some ⟨R,0,none⟩))∧w'.cell? ⟨w.heap.size+1,0,none⟩=some (.pointer (some ⟨X,0,none⟩)))
  (first | go_keep)
  (first
   | (go_at_call 91; refine (CALL.out _ HR3.out.drew).mono ?_; rintro e w4 ⟨rfl,hr4,hk4⟩; have b1:=HBX3d.out.kept hk4 (by exact lb) (by omega); have b2:=HBR3d.out.kept hk4 (by show w.heap.size<w3.heap.size; omega) (by omega); have b3:=HX3d.out.kept hk4 (by exact lX) (by omega); have e1:w4.cell? ⟨w.heap.size,0,none⟩=some (.pointer (some ⟨R,0,none⟩)):=b2.cell 0; have e2:w4.cell? ⟨w.heap.size+1,0,none⟩=some (.pointer (some ⟨X,0,none⟩)):=b1.cell 0; have e3:w4.cell? ⟨X,0,none⟩=some (.int .u8 (17:Nat)):=b3.cell 0; have e4:=b3.free 0; have e6:w4.cell? ⟨X,1,none⟩=some (.string ⟨([]:List UInt8).toArray⟩):=b3.cell 1; have e7:=b3.free 1; have e5:=b1.free 0; have HBX4:=Lib.hid b1; have HBR4:=Lib.hid b2; have HX4:=Lib.hid ((aO.fresh b3).kind 18); have HR4:=Lib.hid hr4; have HK4:=Lib.hid (HK3'.out.trans (au.fD hk4) HK3'.out.size); clear b1 b2 b3 hr4 hk4))
 have HX5:=Lib.hid (HX4.out.text t.text)
 have HBX5:=Lib.hid ((HBX4.out.far n1 0 (.int .u8 (18:Nat))).far n1 1 (.string ⟨t.text.toArray⟩))
 have HBR5:=Lib.hid ((HBR4.out.far n3 0 (.int .u8 (18:Nat))).far n3 1 (.string ⟨t.text.toArray⟩))
 have HR5:=Lib.hid ((HR4.out.set (p:=⟨X,0,none⟩) hRX (.int .u8 (18:Nat))).set (p:=⟨X,1,none⟩) hRX (.string ⟨t.text.toArray⟩))
 have HK5:=Lib.hid ((HK4.out.setCell (p:=⟨X,0,none⟩) (Or.inr (by show w.heap.size≤X; omega)) (.int .u8 (18:Nat))).setCell (p:=⟨X,1,none⟩) (Or.inr (by show w.heap.size≤X; omega)) (.string ⟨t.text.toArray⟩))
 have hc18:(Value.int .u8 18)=.int .u8 ((18:Nat):Int):=rfl
 rw [hc18]
 clear hc18 HX4 HBX4 HBR4 HR4 HK4
 generalize (w4.setCell ⟨X,0,none⟩ (.int .u8 ((18:Nat):Int))).setCell ⟨X,1,none⟩ (.string ⟨t.text.toArray⟩)=W5 at *
 clear e1 e2 e3 e4 e5 e6 e7 x0 x1
 have e1:W5.cell? ⟨w.heap.size,0,none⟩=some (.pointer (some ⟨R,0,none⟩)):=HBR5.out.cell 0
 have e2:W5.cell? ⟨w.heap.size+1,0,none⟩=some (.pointer (some ⟨X,0,none⟩)):=HBX5.out.cell 0
 obtain ⟨t2,r2,hr2⟩:=HR5.out.fin.cons
 have HR2:=Lib.hid hr2
 clear hr2
 go_wp2_with fail
 refine (dH R t2 r2 d [91] _ (by rw [← HR2.out]; exact HR5.out)).mono ?_; rintro e w6 ⟨rfl,hb6⟩; rw [← HR2.out,HN.out]
 have HK6:=Lib.hid (HK5.out.below hb6 HK5.out.size)
 have HX6:=Lib.hid (HX5.out.keep (.of hb6) HX5.out.top hRX)
 have HR6:=Lib.hid (HR5.out.below hb6 HR5.out.lt.1)
 have bx6:=HBX5.out.below hb6
 have HBX6:=Lib.hid bx6
 have HBR6:=Lib.hid (HBR5.out.below hb6)
 have g2:w6.cell? ⟨w.heap.size+1,0,none⟩=some (.pointer (some ⟨X,0,none⟩)):=bx6.cell 0
 have g1:w6.cell? ⟨w.heap.size,0,none⟩=some (.pointer (some ⟨R,0,none⟩)):=HBR6.out.cell 0
 obtain ⟨vv,xx6⟩:=HX6.out.blk
 have g3:w6.cell? ⟨X,0,none⟩=some (.int .u8 (18:Nat)):=xx6.cell 0
 have g4:=xx6.free 0
 have hL:=HX6.out.lt
 have hle:=HX6.out.le
 clear hb6 bx6 e1 e2 xx6
 go_upto_region 10 with fail
 have HQ:Hid (bX (w.heap.size+1) w.heap.size X w4.heap.size R 19 t.text 0 t.at' [] (w6.setCell ⟨X,0,none⟩ (.int .u8 (19:Nat)))):=Lib.hid ⟨HBX6.out.far n1 0 _,HBR6.out.far n3 0 _,_,HX6.out.kind 19⟩
 have HB:Hid (iN (w.heap.size+1) w.heap.size X w4.heap.size R):=Lib.hid ⟨by omega,by omega,by omega,by omega,by omega,by omega,by omega⟩
 have HR7:=Lib.hid (HR6.out.set (p:=⟨X,0,none⟩) hRX (.int .u8 (19:Nat)))
 have HK7:=Lib.hid (HK6.out.setCell (p:=⟨X,0,none⟩) (Or.inr (by show w.heap.size≤X; omega)) (.int .u8 (19:Nat)))
 have hc19:(Value.int .u8 19)=.int .u8 ((19:Nat):Int):=rfl
 rw [hc19]
 clear hc19 g1 g2 g3 g4
 generalize w6.setCell ⟨X,0,none⟩ (.int .u8 ((19:Nat):Int))=W7 at *
 have g1:W7.cell? ⟨w.heap.size,0,none⟩=some (.pointer (some ⟨R,0,none⟩)):=HQ.out.br.cell 0
 have hs7:w.heap.size≤W7.heap.size:=HK7.out.size
 go_wp2_with fail
 refine (ji (α:=Item) w.heap.size R d 248 [91] [93] #[.pointer (some ⟨w.heap.size+1,0,none⟩),.pointer (some ⟨w.heap.size,0,none⟩)] r W7 (binS f 1 (d+1)) (fun x _ w'=>bX (w.heap.size+1) w.heap.size X w4.heap.size R 19 t.text 0 t.at' [x] w') HR7.out hd hs7 (Gx _) ?hF ?hP).mono ?_
 case hF =>
  intro ts1 w8 hop hr8 hk8
  have hdd:d+1≤64:=by
   by_cases h64:64≤d
   ·unfold aR at hop; rw [HN.out,if_pos (by simpa using h64)] at hop; cases hop
   ·omega
  have hne1:binS f 1 (d+1) ts1≠.error aI:=by
   intro hc
   apply HNE.out
   rw [HU.out]; unfold withinR; rw [hop]; simp only []; rw [hc]
  exact Bl w.heap.size _ _ X w4.heap.size R (d+1) 19 t.at' t.text 0 [] (binS f 1 (d+1) ts1) ts1 w8 (HQ.out.keep HB.out hk8) HB.out hr8 (by omega) (by simp) (fun W hW=>tT (IH.out W ts1 hW hdd hne1))
 case hP=>intro a wa wb ha hk; exact ha.keep HB.out hk
 rintro e w8 ⟨hk8,ho⟩
 have HK8:=Lib.hid (HK7.out.trans hk8 (Nat.le_refl _))
 cases hW:withinR [91] [93] d (binS f 1 (d+1)) r with
 | error q =>
  obtain ⟨p,er⟩:=q
  rw [hW] at ho
  subst ho
  refine⟨rfl,OutB.err ?_ HK8.out⟩
  rw [HU.out,hW]
 | ok q =>
  obtain ⟨x,r3⟩:=q
  rw [hW] at ho
  obtain ⟨hr8,v,rfl,hq8⟩:=ho
  have HR8:=Lib.hid hr8
  have g2:w8.cell? ⟨w.heap.size+1,0,none⟩=some (.pointer (some ⟨X,0,none⟩)):=hq8.bx.cell 0
  have g5:=hq8.bx.free 0
  have HQ8:=Lib.hid hq8
  have HW:=Lib.hid hW
  clear hW hr8 hk8 hq8 g1
  go_wp2_with fail
  obtain ⟨C,hit⟩:=HQ8.out.it
  refine bodyPost_ret (v:=.pointer (some ⟨X,0,none⟩)) ?_ rfl (OutB.ok (x:=.mk 19 t.text 0 t.at' [x]) (ts:=r3) ?_ ?_ ?_ ⟨X,rfl,?_⟩)
  ·simp [results,Tryz.results246,go_sem,g2]
  ·rw [HU.out,HW.out]
  ·exact HK8.out.setCell (p:=⟨w.heap.size+1,0,none⟩) (Or.inr (by show w.heap.size≤w.heap.size+1; omega)) _
  ·exact HR8.out.set (p:=⟨w.heap.size+1,0,none⟩) (by show R<w.heap.size+1; omega) _
  ·exact ((hit.close.far (a:=⟨w.heap.size+1,0,none⟩) (fun j hj=>by show j≠w.heap.size+1; omega) _).mono (fun j hj _=>by omega))
structure wN (bx br R:Nat) (x:Item) (w:World):Prop where
 bx:∃ p,Blk w bx 93 #[.pointer (some ⟨p,0,none⟩)]∧dx w (fun j=>bx<j) p x
theorem wN.keep {bx br R:Nat} {x:Item} {w w':World} (h:wN bx br R x w) (hR:R<bx) (hk:au w.heap.size R w w'):wN bx br R x w':=by
 obtain ⟨p,h1,h2⟩:=h
 exact⟨p,(hk.block bx h1.lt (by omega)).trans h1,h2.keep (fun j hj hl=>hk.block j hl (by omega))⟩
theorem Cn (B bx br R d:Nat) (res:Rd) (ts:List Tok) (v:Value) (w:World) (hbx:Blk w bx 93 #[v]) (hbr:Blk w br 90 #[.pointer (some ⟨R,0,none⟩)]) (_hr:RD w R ts d) (hB:B≤bx) (hR:R<bx) (_hxr:bx≠br)
  (hC:Calls Tryz.prog 210 #[.pointer (some ⟨R,0,none⟩)] w (aX w R d res)) :
  Calls Tryz.prog 249 #[.pointer (some ⟨br,0,none⟩),.pointer (some ⟨bx,0,none⟩)] w (OutB B w R d res fun x v w'=>v=.tuple #[]∧wN bx br R x w'):=by
 have cr:w.cell? ⟨br,0,none⟩=some (.pointer (some ⟨R,0,none⟩)):=hbr.cell 0
 have lb:=hbx.lt
 have HBX:=Lib.hid hbx; have HC:=Lib.hid hC
 clear hbx hbr _hr hC
 go_enter Tryz.func249,Tryz.ntmps249
 go_wp2_with fail
 refine HC.out.mono ?_
 cases res with
 | error q =>
  rintro e w' ho
  obtain ⟨rfl,hk⟩:=ho.no
  exact⟨rfl,OutB.err rfl (hk.mono (by omega))⟩
 | ok q =>
  rintro e w' ho
  obtain ⟨p,rfl,hi,hr,hk⟩:=ho.yes
  have b1:=HBX.out.kept hk lb (by omega)
  have c1:w'.cell? ⟨bx,0,none⟩=some v:=b1.cell 0
  have c2:=b1.free 0
  have HB1:=Lib.hid b1; have HI:=Lib.hid hi; have HR:=Lib.hid hr; have HK:=Lib.hid hk
  clear b1 hi hr hk cr
  go_wp2_with fail
  go_end0
  exact OutB.ok rfl ((HK.out.mono (by omega)).setCell (p:=⟨bx,0,none⟩) (Or.inr hB) _) (HR.out.set (p:=⟨bx,0,none⟩) hR _) ⟨rfl,p,HB1.out.put 0 _,(HI.out.mono (fun j hj _=>by show bx<j; omega)).far (a:=⟨bx,0,none⟩) (fun j hj=>by show j≠bx; omega) _⟩
theorem Jd (f R d:Nat) (ts:List Tok) (w:World) (h:RD w R ts d) (hi3:aj ts≠3) (hi:aj ts≠1) (hd:d≤64) (ih:∀ W ts',RD W R ts' (d+1)→d+1≤64→binS f 1 (d+1) ts'≠.error aI→Calls Tryz.prog 230 #[.pointer (some ⟨R,0,none⟩),.int .i64 1] W (aX W R (d+1) (binS f 1 (d+1) ts'))) (hne:cB (f+1) d ts≠.error aI) :
  Calls Tryz.prog 246 #[.pointer (some ⟨R,0,none⟩)] w (aX w R d (cB (f+1) d ts)):=by
 obtain ⟨t,r,rfl⟩:=h.fin.cons
 have hU:cB (f+1) d (t :: r)=withinR [40] [41] d (binS f 1 (d+1)) (t :: r):=by
  conv=>lhs; unfold cB
  rw [if_neg hi3,if_neg hi]
  unfold withinR
  cases aR [40] d (t :: r) with
  | error e=>rfl
  | ok ts1 =>
   simp only []
   cases binS f 1 (d+1) ts1 with
   | error e=>rfl
   | ok v =>
    obtain ⟨x,ts2⟩:=v
    simp only []
    rw [if_neg (by simp)]
    rfl
 have hk3:¬ t.kind=3:=hi3
 have hk1:¬ t.kind=1:=hi
 have IH:=Lib.hid ih; have HNE:=Lib.hid hne
 have q3:((t.kind:Int) == 3)=false:=by simp; omega
 have q1:((t.kind:Int) == 1)=false:=by simp; omega
 have H:=Lib.hid h; have HU:=Lib.hid hU; have HK3:=Lib.hid hk3
 clear hi3 hk1 ih hne
 clear h hi hU hk3
 have f0:=mH
 have f2:=Gr
 go_enter Tryz.func246,Tryz.ntmps246
 go_wp2_with fail
 refine (dX R d 17 (t :: r) _ ((H.out.alloc _).alloc _)).mono ?_; rintro e w1 ⟨X,rfl,hX,hb1,hk1⟩
 have hRw:=H.out.lt.1
 have hXw:w.heap.size+1<X:=by simp at hX; omega
 have BX1:Blk w1 (w.heap.size+1) 93 #[.pointer none]:=by
  have:=(Blk.new (w.alloc (.cells #[.pointer (some ⟨R,0,none⟩)] 90)) 93 #[.pointer none]).below hk1
  simpa using this
 have BR1:Blk w1 w.heap.size 90 #[.pointer (some ⟨R,0,none⟩)]:=((Blk.new w 90 _).alloc _).below hk1
 have c1:w1.cell? ⟨w.heap.size,0,none⟩=some (.pointer (some ⟨R,0,none⟩)):=BR1.cell 0
 have c2:w1.cell? ⟨w.heap.size+1,0,none⟩=some (.pointer none):=BX1.cell 0
 have c3:=BX1.free 0
 have l1:=BX1.lt
 have HBX:=Lib.hid hb1; have HBX1:=Lib.hid BX1; have HBR1:=Lib.hid BR1
 have HK1:Hid (au w.heap.size R w w1):=Lib.hid ((((au.refl _ R w).alloc (Nat.le_refl _) (.cells #[.pointer (some ⟨R,0,none⟩)] 90)).alloc (by simp) (.cells #[.pointer none] 93)).below hk1 (by simp; omega))
 have HR1:=Lib.hid (((H.out.alloc (.cells #[.pointer (some ⟨R,0,none⟩)] 90)).alloc (.cells #[.pointer none] 93)).below hk1 (by simp; omega))
 clear hb1 hk1 BX1 BR1 hX
 go_wp2_with fail
 have nX:¬ X=w.heap.size+1:=by omega
 have BX2:=HBX1.out.put 0 (.pointer (some ⟨X,0,none⟩))
 have HBX2:Hid (Blk (w1.setCell ⟨w.heap.size+1,0,none⟩ (.pointer (some ⟨X,0,none⟩))) (w.heap.size+1) 93 #[.pointer (some ⟨X,0,none⟩)]):=Lib.hid BX2
 have HBR2:=Lib.hid (HBR1.out.far (g':=w.heap.size+1) (by omega) 0 (.pointer (some ⟨X,0,none⟩)))
 have HX2:=Lib.hid (HBX.out.far nX 0 (.pointer (some ⟨X,0,none⟩)))
 have HR2:=Lib.hid (HR1.out.set (p:=⟨w.heap.size+1,0,none⟩) (by show R<w.heap.size+1; omega) (.pointer (some ⟨X,0,none⟩)))
 have HK2:=Lib.hid (HK1.out.setCell (p:=⟨w.heap.size+1,0,none⟩) (Or.inr (by show w.heap.size≤w.heap.size+1; omega)) (.pointer (some ⟨X,0,none⟩)))
 clear BX2 HBX1 HBR1 HBX HR1 HK1 c1 c2 c3 l1
 generalize w1.setCell ⟨w.heap.size+1,0,none⟩ (.pointer (some ⟨X,0,none⟩))=W2 at *
 refine (dP R t r d _ HR2.out).mono ?_; rintro e w3 ⟨rfl,hb3⟩; unfold eY
 have hs3:=hb3.size
 have HBX3:=Lib.hid (HBX2.out.below hb3); have HBR3:=Lib.hid (HBR2.out.below hb3); have HX3:=Lib.hid (HX2.out.below hb3); have HR3:=Lib.hid (HR2.out.below hb3 HR2.out.lt.1); have HK3':=Lib.hid (HK2.out.below hb3 HK2.out.size)
 clear hb3 HBX2 HBR2 HX2 HR2 HK2
 have c1:w3.cell? ⟨w.heap.size,0,none⟩=some (.pointer (some ⟨R,0,none⟩)):=HBR3.out.cell 0
 have c2:w3.cell? ⟨w.heap.size+1,0,none⟩=some (.pointer (some ⟨X,0,none⟩)):=HBX3.out.cell 0
 go_wp2_with fail
 have hs3':w.heap.size≤w3.heap.size:=HK3'.out.size
 refine (ji (α:=Item) w.heap.size R d 249 [40] [41] #[.pointer (some ⟨w.heap.size,0,none⟩),.pointer (some ⟨w.heap.size+1,0,none⟩)] (t :: r) w3 (binS f 1 (d+1)) (fun x _ w'=>wN (w.heap.size+1) w.heap.size R x w') HR3.out hd hs3' (Fu _) ?hF ?hP).mono ?_
 case hF =>
  intro ts1 w8 hop hr8 hk8
  have hdd:d+1≤64:=by
   by_cases h64:64≤d
   ·unfold aR at hop
    split at hop
    ·cases hop
    ·rename_i hne
     unfold af at hop
     split at hop
     ·rename_i his; exact absurd (by rw [his]; simpa using h64) hne
     ·cases hop
   ·omega
  have hne1:binS f 1 (d+1) ts1≠.error aI:=by
   intro hc
   apply HNE.out
   rw [HU.out]; unfold withinR; rw [hop]; simp only []; rw [hc]
  have hlb:=HBX3.out.lt
  exact Cn w.heap.size (w.heap.size+1) w.heap.size R (d+1) (binS f 1 (d+1) ts1) ts1 _ w8 (HBX3.out.kept hk8 hlb (by omega)) (HBR3.out.kept hk8 (by omega) (by omega)) hr8 (by omega) (by omega) (by omega) (tT (IH.out w8 ts1 hr8 hdd hne1))
 case hP=>intro a wa wb ha hk; exact ha.keep (by omega) hk
 rintro e w8 ⟨hk8,ho⟩
 have HK8:=Lib.hid (HK3'.out.trans hk8 (Nat.le_refl _))
 cases hW:withinR [40] [41] d (binS f 1 (d+1)) (t :: r) with
 | error q =>
  obtain ⟨p,er⟩:=q
  rw [hW] at ho
  subst ho
  refine⟨rfl,OutB.err ?_ HK8.out⟩
  rw [HU.out,hW]
 | ok q =>
  obtain ⟨x,r3⟩:=q
  rw [hW] at ho
  obtain ⟨hr8,v,rfl,p,hp8,hi8⟩:=ho
  have HR8:=Lib.hid hr8
  have g2:w8.cell? ⟨w.heap.size+1,0,none⟩=some (.pointer (some ⟨p,0,none⟩)):=hp8.cell 0
  have g5:=hp8.free 0
  have HI8:=Lib.hid hi8
  have HW:=Lib.hid hW
  clear hW hr8 hk8 hp8 hi8 c1 c2
  go_wp2_with fail
  refine bodyPost_ret (v:=.pointer (some ⟨p,0,none⟩)) ?_ rfl (OutB.ok (x:=x) (ts:=r3) ?_ ?_ ?_ ⟨p,rfl,?_⟩)
  ·simp [results,Tryz.results246,go_sem,g2]
  ·rw [HU.out,HW.out]
  ·exact HK8.out.setCell (p:=⟨w.heap.size+1,0,none⟩) (Or.inr (by show w.heap.size≤w.heap.size+1; omega)) _
  ·exact HR8.out.set (p:=⟨w.heap.size+1,0,none⟩) (by show R<w.heap.size+1; omega) _
  ·exact ((HI8.out.far (a:=⟨w.heap.size+1,0,none⟩) (fun j hj=>by show j≠w.heap.size+1; omega) _).mono (fun j hj _=>by omega))
end Go.Proofs.YtkkeocnnecegbaaGreatDoor
