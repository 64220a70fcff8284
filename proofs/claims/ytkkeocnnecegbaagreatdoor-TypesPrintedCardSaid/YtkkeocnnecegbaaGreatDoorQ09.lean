/- Joint text: PwG. By an AI agent. -/
import Derived.Test.YtkkeocnnecegbaaGreatDoorQ08
set_option linter.all false
set_option maxRecDepth 100000
set_option maxHeartbeats 64000000
namespace Go.Proofs.YtkkeocnnecegbaaGreatDoor
open Go.RowKit
theorem xM (cap:Array Value) (W:World):(callFunc 245 cap).run Tryz.prog W=.ok (.enter 245 cap) W:=by kernel_rfl
theorem un_minus (f R d:Nat) (ts:List Tok) (w:World) (h:RD w R ts d) (hd:d≤64) (hi:isT [45] ts=true)
  (ih:∀ W ts',RD W R ts' (d+1)→d+1≤64→unS f (d+1) ts'≠.error aI→Calls Tryz.prog 239 #[.pointer (some ⟨R,0,none⟩)] W (aX W R (d+1) (unS f (d+1) ts')))
  (hne:unS (f+1) d ts≠.error aI):Calls Tryz.prog 239 #[.pointer (some ⟨R,0,none⟩)] w (aX w R d (unS (f+1) d ts)):=by
 have hU:unS (f+1) d ts=match withinR [45] [] d (unS f (d+1)) ts with
  | .error e=>.error e
  | .ok (x,r)=>.ok (.mk 20 [] 1 (nowAt ts) [x],r):=by
  conv=>lhs; unfold unS
  rw [if_pos hi]
  unfold withinR
  cases aR [45] d ts with
  | error e=>rfl
  | ok ts1 =>
   simp only []
   cases unS f (d+1) ts1 <;> rfl
 have H:=Lib.hid h; have HI:=Lib.hid hi; have IH:=Lib.hid ih; have HNE:=Lib.hid hne; have HU:=Lib.hid hU
 clear h hi ih hne hU
 go_enter Tryz.func239,Tryz.ntmps239
 go_wp2_with fail
 refine (dX R d 20 ts _ (H.out.alloc _)).mono ?_; rintro e w1 ⟨X,rfl,hX,hb1,hk1⟩
 have HX:=Lib.hid hX; have HBX:=Lib.hid hb1; have HK1:=Lib.hid hk1
 have hbr:Blk w1 w.heap.size 90 #[.pointer (some ⟨R,0,none⟩)]:=(Blk.new w 90 _).below hk1
 have HBR:=Lib.hid hbr
 have c1:w1.cell? ⟨w.heap.size,0,none⟩=some (.pointer (some ⟨R,0,none⟩)):=hbr.cell 0
 have l1:=hbr.lt
 clear hX hb1 hk1 hbr
 go_wp2_with fail
 refine wp_loop_rounds 3 ?_
 rw [rounds_succ]
 go_wp2_with fail
 obtain ⟨t,r,hts⟩:=H.out.fin.cons
 have HTS:=Lib.hid hts
 have HR1:=Lib.hid ((H.out.alloc (.cells #[.pointer (some ⟨R,0,none⟩)] 90)).below HK1.out (by have:=H.out.lt.1; simp; omega))
 have HR2:=Lib.hid ((HR1.out.alloc (.cells #[.pointer (some ⟨X,0,none⟩)] 93)).alloc (.cells #[.string ⟨#[45]⟩,.string ⟨#[33]⟩] 9))
 clear hts
 refine (dH R t r d [45] _ (by rw [← HTS.out]; exact HR2.out)).mono ?_; rintro e w3 ⟨rfl,hb3⟩; rw [← HTS.out,HI.out]
 have hb13:Below w1.heap.size w1 w3:=(((Below.refl _ _).alloc (Nat.le_refl _) _).alloc (by simp) _).trans (hb3.mono (by simp; omega))
 have HR3:=Lib.hid (HR2.out.below hb3 HR2.out.lt.1)
 have BX3:Blk w3 w1.heap.size 93 #[.pointer (some ⟨X,0,none⟩)]:=((Blk.new w1 93 _).alloc _).below hb3
 have BR3:Blk w3 w.heap.size 90 #[.pointer (some ⟨R,0,none⟩)]:=HBR.out.below hb13
 have X3:Blk w3 X 160 _:=HBX.out.below hb13
 have d1:w3.cell? ⟨w1.heap.size,0,none⟩=some (.pointer (some ⟨X,0,none⟩)):=BX3.cell 0
 have d2:w3.cell? ⟨w.heap.size,0,none⟩=some (.pointer (some ⟨R,0,none⟩)):=BR3.cell 0
 have d3:w3.cell? ⟨X,2,none⟩=some (.int .i64 0):=X3.cell 2
 have d4:=X3.free 2
 have l3:=BX3.lt
 have l4:=BR3.lt
 have lX:=X3.lt
 have lX1:=HBX.out.lt
 have hXw:w.heap.size<X:=by have:=HX.out; simp at this; omega
 have n1:¬ w1.heap.size=X:=by omega
 have n2:¬ w.heap.size=X:=by omega
 have BX3':=Lib.hid BX3; have BR3':=Lib.hid BR3; have X3':=Lib.hid X3; have HB13:=Lib.hid hb13
 clear hb3 hb13 BX3 BR3 X3 HR2 c1 l1
 go_wp2_with fail
 have HQ:Hid (bX w1.heap.size w.heap.size X w3.heap.size R 20 [] 1 (nowAt ts) [] (w3.setCell ⟨X,2,none⟩ (.int .i64 1))):=Lib.hid ⟨BX3'.out.far n1 2 _,BR3'.out.far n2 2 _,_,(aO.new X3'.out lX (Nat.le_refl _)).num 1⟩
 have hRw:=H.out.lt.1
 have HB:Hid (iN w1.heap.size w.heap.size X w3.heap.size R):=Lib.hid ⟨l3,l4,n1,n2,by omega,by omega,by omega⟩
 have HR4:=Lib.hid (HR3.out.set (p:=⟨X,2,none⟩) (by show R<X; omega) (.int .i64 1))
 have HK4:Hid (au w.heap.size R w (w3.setCell ⟨X,2,none⟩ (.int .i64 1))):=Lib.hid ((((au.refl _ R w).alloc (Nat.le_refl _) (.cells #[.pointer (some ⟨R,0,none⟩)] 90)).below HK1.out (by simp)).below HB13.out (by omega) |>.setCell (p:=⟨X,2,none⟩) (Or.inr (by show w.heap.size≤X; omega)) (.int .i64 1))
 have hs4:w.heap.size≤(w3.setCell ⟨X,2,none⟩ (.int .i64 1)).heap.size:=HK4.out.size
 generalize w3.setCell ⟨X,2,none⟩ (.int .i64 1)=W4 at *
 clear d1 d2 d3 d4
 refine (ji (α:=Item) w.heap.size R d 245 [45] [] #[.pointer (some ⟨w1.heap.size,0,none⟩),.pointer (some ⟨w.heap.size,0,none⟩)] ts W4 (unS f (d+1)) (fun x _ w'=>bX w1.heap.size w.heap.size X w3.heap.size R 20 [] 1 (nowAt ts) [x] w') HR4.out hd hs4 (xM _) ?hF ?hP).mono ?_
 case hF =>
  intro ts1 w5 hop hr5 hk5
  have hdd:d+1≤64:=by
   by_cases h64:64≤d
   ·unfold aR at hop; rw [HI.out,if_pos (by simpa using h64)] at hop; cases hop
   ·omega
  have hne1:unS f (d+1) ts1≠.error aI:=by
   intro hc
   apply HNE.out
   rw [HU.out]; unfold withinR; rw [hop]; simp only []; rw [hc]
  exact rO w.heap.size _ _ X w3.heap.size R (d+1) 20 (nowAt ts) [] 1 [] (unS f (d+1) ts1) ts1 w5 (HQ.out.keep HB.out hk5) HB.out hr5 (by omega) (by simp) (fun W hW=>IH.out W ts1 hW hdd hne1)
 case hP=>intro a wa wb ha hk; exact ha.keep HB.out hk
 rintro e w5 ⟨hk5,ho⟩
 have HK5:=Lib.hid (HK4.out.trans hk5 (Nat.le_refl _))
 cases hW:withinR [45] [] d (unS f (d+1)) ts with
 | error q =>
  obtain ⟨p,er⟩:=q
  rw [hW] at ho
  subst ho
  refine⟨rfl,OutB.err ?_ HK5.out⟩
  rw [HU.out,hW]
 | ok q =>
  obtain ⟨x,r2⟩:=q
  rw [hW] at ho
  obtain ⟨hr5,v,rfl,hq5⟩:=ho
  have HR5:=Lib.hid hr5
  have e1:w5.cell? ⟨w1.heap.size,0,none⟩=some (.pointer (some ⟨X,0,none⟩)):=hq5.bx.cell 0
  have HQ5:=Lib.hid hq5
  have HW:=Lib.hid hW
  clear hW hr5 hk5 hq5
  go_wp2_with fail
  go_ret
  obtain ⟨C,hit⟩:=HQ5.out.it
  refine OutB.ok (x:=.mk 20 [] 1 (nowAt ts) [x]) (ts:=r2) ?_ HK5.out HR5.out ⟨X,rfl,hit.close.mono (fun j hj _=>by omega)⟩
  rw [HU.out,HW.out]
theorem IY (f R d:Nat) (ts:List Tok) (w:World) (h:RD w R ts d) (hd:d≤64) (hn:isT [45] ts=false) (hi:isT [33] ts=true)
  (ih:∀ W ts',RD W R ts' (d+1)→d+1≤64→unS f (d+1) ts'≠.error aI→Calls Tryz.prog 239 #[.pointer (some ⟨R,0,none⟩)] W (aX W R (d+1) (unS f (d+1) ts')))
  (hne:unS (f+1) d ts≠.error aI):Calls Tryz.prog 239 #[.pointer (some ⟨R,0,none⟩)] w (aX w R d (unS (f+1) d ts)):=by
 have hU:unS (f+1) d ts=match withinR [33] [] d (unS f (d+1)) ts with
  | .error e=>.error e
  | .ok (x,r)=>.ok (.mk 20 [] 2 (nowAt ts) [x],r):=by
  conv=>lhs; unfold unS
  rw [if_neg (by rw [hn]; simp),if_pos hi]
  unfold withinR
  cases aR [33] d ts with
  | error e=>rfl
  | ok ts1 =>
   simp only []
   cases unS f (d+1) ts1 <;> rfl
 have H:=Lib.hid h; have HI:=Lib.hid hi; have HN:=Lib.hid hn; have IH:=Lib.hid ih; have HNE:=Lib.hid hne; have HU:=Lib.hid hU
 clear h hi hn ih hne hU
 go_enter Tryz.func239,Tryz.ntmps239
 go_wp2_with fail
 refine (dX R d 20 ts _ (H.out.alloc _)).mono ?_; rintro e w1 ⟨X,rfl,hX,hb1,hk1⟩
 have HX:=Lib.hid hX; have HBX:=Lib.hid hb1; have HK1:=Lib.hid hk1
 have hbr:Blk w1 w.heap.size 90 #[.pointer (some ⟨R,0,none⟩)]:=(Blk.new w 90 _).below hk1
 have HBR:=Lib.hid hbr
 have c1:w1.cell? ⟨w.heap.size,0,none⟩=some (.pointer (some ⟨R,0,none⟩)):=hbr.cell 0
 have l1:=hbr.lt
 clear hX hb1 hk1 hbr
 go_wp2_with fail
 refine wp_loop_rounds 3 ?_
 rw [rounds_succ]
 go_wp2_with fail
 obtain ⟨t,r,hts⟩:=H.out.fin.cons
 have HTS:=Lib.hid hts
 have HR1:=Lib.hid ((H.out.alloc (.cells #[.pointer (some ⟨R,0,none⟩)] 90)).below HK1.out (by have:=H.out.lt.1; simp; omega))
 have HR2:=Lib.hid ((HR1.out.alloc (.cells #[.pointer (some ⟨X,0,none⟩)] 93)).alloc (.cells #[.string ⟨#[45]⟩,.string ⟨#[33]⟩] 9))
 clear hts
 refine (dH R t r d [45] _ (by rw [← HTS.out]; exact HR2.out)).mono ?_; rintro e wA ⟨rfl,hbA⟩; rw [← HTS.out,HN.out]
 have HRA:=Lib.hid (HR2.out.below hbA HR2.out.lt.1)
 have hb1A:Below w1.heap.size w1 wA:=(((Below.refl _ _).alloc (Nat.le_refl _) _).alloc (by simp) _).trans (hbA.mono (by simp; omega))
 have BXA:Blk wA w1.heap.size 93 #[.pointer (some ⟨X,0,none⟩)]:=((Blk.new w1 93 _).alloc _).below hbA
 have HBXA:=Lib.hid BXA
 have BSA:Blk wA (w1.heap.size+1) 9 #[.string ⟨#[45]⟩,.string ⟨#[33]⟩]:=by
  have:=(Blk.new (w1.alloc (.cells #[.pointer (some ⟨X,0,none⟩)] 93)) 9 #[.string ⟨#[45]⟩,.string ⟨#[33]⟩]).below hbA
  simpa using this
 have s1:wA.cell? ⟨w1.heap.size+1,1,none⟩=some (.string ⟨#[33]⟩):=BSA.cell 1
 have cA:wA.cell? ⟨w.heap.size,0,none⟩=some (.pointer (some ⟨R,0,none⟩)):=(HBR.out.below hb1A).cell 0
 have HB1A:=Lib.hid hb1A
 have hsA:w1.heap.size≤wA.heap.size:=hb1A.size
 clear c1 l1 hbA BXA BSA hb1A
 go_wp2_with fail
 rw [rounds_succ]
 go_wp2_with fail
 refine (dH R t r d [33] _ (by rw [← HTS.out]; exact HRA.out)).mono ?_; rintro e w3 ⟨rfl,hb3⟩; rw [← HTS.out,HI.out]
 have hb13:Below w1.heap.size w1 w3:=HB1A.out.trans (hb3.mono hsA)
 have HR3:=Lib.hid (HRA.out.below hb3 HRA.out.lt.1)
 have BX3:Blk w3 w1.heap.size 93 #[.pointer (some ⟨X,0,none⟩)]:=HBXA.out.below hb3
 have BR3:Blk w3 w.heap.size 90 #[.pointer (some ⟨R,0,none⟩)]:=HBR.out.below hb13
 have X3:Blk w3 X 160 _:=HBX.out.below hb13
 have d1:w3.cell? ⟨w1.heap.size,0,none⟩=some (.pointer (some ⟨X,0,none⟩)):=BX3.cell 0
 have d2:w3.cell? ⟨w.heap.size,0,none⟩=some (.pointer (some ⟨R,0,none⟩)):=BR3.cell 0
 have d3:w3.cell? ⟨X,2,none⟩=some (.int .i64 0):=X3.cell 2
 have d4:=X3.free 2
 have l3:=BX3.lt
 have l4:=BR3.lt
 have lX:=X3.lt
 have lX1:=HBX.out.lt
 have hXw:w.heap.size<X:=by have:=HX.out; simp at this; omega
 have n1:¬ w1.heap.size=X:=by omega
 have n2:¬ w.heap.size=X:=by omega
 have BX3':=Lib.hid BX3; have BR3':=Lib.hid BR3; have X3':=Lib.hid X3; have HB13:=Lib.hid hb13
 clear hb3 hb13 BX3 BR3 X3 HR2 s1 cA
 go_wp2_with fail
 have HQ:Hid (bX w1.heap.size w.heap.size X w3.heap.size R 20 [] 2 (nowAt ts) [] (w3.setCell ⟨X,2,none⟩ (.int .i64 2))):=Lib.hid ⟨BX3'.out.far n1 2 _,BR3'.out.far n2 2 _,_,(aO.new X3'.out lX (Nat.le_refl _)).num 2⟩
 have hRw:=H.out.lt.1
 have HB:Hid (iN w1.heap.size w.heap.size X w3.heap.size R):=Lib.hid ⟨l3,l4,n1,n2,by omega,by omega,by omega⟩
 have HR4:=Lib.hid (HR3.out.set (p:=⟨X,2,none⟩) (by show R<X; omega) (.int .i64 2))
 have HK4:Hid (au w.heap.size R w (w3.setCell ⟨X,2,none⟩ (.int .i64 2))):=Lib.hid ((((au.refl _ R w).alloc (Nat.le_refl _) (.cells #[.pointer (some ⟨R,0,none⟩)] 90)).below HK1.out (by simp)).below HB13.out (by omega) |>.setCell (p:=⟨X,2,none⟩) (Or.inr (by show w.heap.size≤X; omega)) (.int .i64 2))
 have hs4:w.heap.size≤(w3.setCell ⟨X,2,none⟩ (.int .i64 2)).heap.size:=HK4.out.size
 generalize w3.setCell ⟨X,2,none⟩ (.int .i64 2)=W4 at *
 clear d1 d2 d3 d4
 refine (ji (α:=Item) w.heap.size R d 245 [33] [] #[.pointer (some ⟨w1.heap.size,0,none⟩),.pointer (some ⟨w.heap.size,0,none⟩)] ts W4 (unS f (d+1)) (fun x _ w'=>bX w1.heap.size w.heap.size X w3.heap.size R 20 [] 2 (nowAt ts) [x] w') HR4.out hd hs4 (xM _) ?hF ?hP).mono ?_
 case hF =>
  intro ts1 w5 hop hr5 hk5
  have hdd:d+1≤64:=by
   by_cases h64:64≤d
   ·unfold aR at hop; rw [HI.out,if_pos (by simpa using h64)] at hop; cases hop
   ·omega
  have hne1:unS f (d+1) ts1≠.error aI:=by
   intro hc
   apply HNE.out
   rw [HU.out]; unfold withinR; rw [hop]; simp only []; rw [hc]
  exact rO w.heap.size _ _ X w3.heap.size R (d+1) 20 (nowAt ts) [] 2 [] (unS f (d+1) ts1) ts1 w5 (HQ.out.keep HB.out hk5) HB.out hr5 (by omega) (by simp) (fun W hW=>IH.out W ts1 hW hdd hne1)
 case hP=>intro a wa wb ha hk; exact ha.keep HB.out hk
 rintro e w5 ⟨hk5,ho⟩
 have HK5:=Lib.hid (HK4.out.trans hk5 (Nat.le_refl _))
 cases hW:withinR [33] [] d (unS f (d+1)) ts with
 | error q =>
  obtain ⟨p,er⟩:=q
  rw [hW] at ho
  subst ho
  refine⟨rfl,OutB.err ?_ HK5.out⟩
  rw [HU.out,hW]
 | ok q =>
  obtain ⟨x,r2⟩:=q
  rw [hW] at ho
  obtain ⟨hr5,v,rfl,hq5⟩:=ho
  have HR5:=Lib.hid hr5
  have e1:w5.cell? ⟨w1.heap.size,0,none⟩=some (.pointer (some ⟨X,0,none⟩)):=hq5.bx.cell 0
  have HQ5:=Lib.hid hq5
  have HW:=Lib.hid hW
  clear hW hr5 hk5 hq5
  go_wp2_with fail
  go_ret
  obtain ⟨C,hit⟩:=HQ5.out.it
  refine OutB.ok (x:=.mk 20 [] 2 (nowAt ts) [x]) (ts:=r2) ?_ HK5.out HR5.out ⟨X,rfl,hit.close.mono (fun j hj _=>by omega)⟩
  rw [HU.out,HW.out]
theorem JZ (f R d:Nat) (ts:List Tok) (w:World) (h:RD w R ts d) (_hd:d≤64) (hn:isT [45] ts=false) (hi:isT [33] ts=false)
  (ih:∀ W,RD W R ts d→cB f d ts≠.error aI→Calls Tryz.prog 246 #[.pointer (some ⟨R,0,none⟩)] W (aX W R d (cB f d ts)))
  (hne:unS (f+1) d ts≠.error aI):Calls Tryz.prog 239 #[.pointer (some ⟨R,0,none⟩)] w (aX w R d (unS (f+1) d ts)):=by
 have hU:unS (f+1) d ts=cB f d ts:=by
  conv=>lhs; unfold unS
  rw [if_neg (by rw [hn]; simp),if_neg (by rw [hi]; simp)]
 have H:=Lib.hid h; have HI:=Lib.hid hi; have HN:=Lib.hid hn; have IH:=Lib.hid ih; have HNE:=Lib.hid hne; have HU:=Lib.hid hU
 clear h hi hn ih hne hU
 go_enter Tryz.func239,Tryz.ntmps239
 go_wp2_with fail
 refine (dX R d 20 ts _ (H.out.alloc _)).mono ?_; rintro e w1 ⟨X,rfl,hX,hb1,hk1⟩
 have HX:=Lib.hid hX; have HBX:=Lib.hid hb1; have HK1:=Lib.hid hk1
 have hbr:Blk w1 w.heap.size 90 #[.pointer (some ⟨R,0,none⟩)]:=(Blk.new w 90 _).below hk1
 have HBR:=Lib.hid hbr
 have c1:w1.cell? ⟨w.heap.size,0,none⟩=some (.pointer (some ⟨R,0,none⟩)):=hbr.cell 0
 have l1:=hbr.lt
 clear hX hb1 hk1 hbr
 go_wp2_with fail
 refine wp_loop_rounds 3 ?_
 rw [rounds_succ]
 go_wp2_with fail
 obtain ⟨t,r,hts⟩:=H.out.fin.cons
 have HTS:=Lib.hid hts
 have HR1:=Lib.hid ((H.out.alloc (.cells #[.pointer (some ⟨R,0,none⟩)] 90)).below HK1.out (by have:=H.out.lt.1; simp; omega))
 have HR2:=Lib.hid ((HR1.out.alloc (.cells #[.pointer (some ⟨X,0,none⟩)] 93)).alloc (.cells #[.string ⟨#[45]⟩,.string ⟨#[33]⟩] 9))
 clear hts
 refine (dH R t r d [45] _ (by rw [← HTS.out]; exact HR2.out)).mono ?_; rintro e wA ⟨rfl,hbA⟩; rw [← HTS.out,HN.out]
 have HRA:=Lib.hid (HR2.out.below hbA HR2.out.lt.1)
 have hb1A:Below w1.heap.size w1 wA:=(((Below.refl _ _).alloc (Nat.le_refl _) _).alloc (by simp) _).trans (hbA.mono (by simp; omega))
 have BXA:Blk wA w1.heap.size 93 #[.pointer (some ⟨X,0,none⟩)]:=((Blk.new w1 93 _).alloc _).below hbA
 have HBXA:=Lib.hid BXA
 have BSA:Blk wA (w1.heap.size+1) 9 #[.string ⟨#[45]⟩,.string ⟨#[33]⟩]:=by
  have:=(Blk.new (w1.alloc (.cells #[.pointer (some ⟨X,0,none⟩)] 93)) 9 #[.string ⟨#[45]⟩,.string ⟨#[33]⟩]).below hbA
  simpa using this
 have s1:wA.cell? ⟨w1.heap.size+1,1,none⟩=some (.string ⟨#[33]⟩):=BSA.cell 1
 have cA:wA.cell? ⟨w.heap.size,0,none⟩=some (.pointer (some ⟨R,0,none⟩)):=(HBR.out.below hb1A).cell 0
 have HB1A:=Lib.hid hb1A
 have hsA:w1.heap.size≤wA.heap.size:=hb1A.size
 clear c1 l1 hbA BXA BSA hb1A
 go_wp2_with fail
 rw [rounds_succ]
 go_wp2_with fail
 refine (dH R t r d [33] _ (by rw [← HTS.out]; exact HRA.out)).mono ?_; rintro e w3 ⟨rfl,hb3⟩; rw [← HTS.out,HI.out]
 have hb13:Below w1.heap.size w1 w3:=HB1A.out.trans (hb3.mono hsA)
 have HR3:=Lib.hid (HRA.out.below hb3 HRA.out.lt.1)
 have c3:w3.cell? ⟨w.heap.size,0,none⟩=some (.pointer (some ⟨R,0,none⟩)):=(HBR.out.below hb13).cell 0
 have HK3:Hid (au w.heap.size R w w3):=Lib.hid ((((au.refl _ R w).alloc (Nat.le_refl _) (.cells #[.pointer (some ⟨R,0,none⟩)] 90)).below HK1.out (by simp)).below hb13 (by have:=HK1.out.size; simp at this; omega))
 have hs3:=HK3.out.size
 clear hb3 hb13 HR2 s1 cA
 go_wp2_with fail
 rw [rounds_succ]
 go_wp2_with fail
 refine (IH.out w3 HR3.out (by rw [← HU.out]; exact HNE.out)).mono ?_
 rintro e w5 ⟨hk5,ho⟩
 have HK5:=Lib.hid (HK3.out.trans hk5 hs3)
 cases hW:cB f d ts with
 | error q =>
  obtain ⟨p,er⟩:=q
  rw [hW] at ho
  subst ho
  refine⟨rfl,OutB.err ?_ HK5.out⟩
  rw [HU.out,hW]
 | ok q =>
  obtain ⟨x,r2⟩:=q
  rw [hW] at ho
  obtain ⟨hr5,v,rfl,p,rfl,hi5⟩:=ho
  have HR5:=Lib.hid hr5
  have HI5:=Lib.hid hi5
  have HW:=Lib.hid hW
  clear hW hr5 hk5 hi5
  go_wp2_with fail
  go_ret
  refine OutB.ok (x:=x) (ts:=r2) ?_ HK5.out HR5.out ⟨p,rfl,HI5.out.mono (fun j hj _=>by omega)⟩
  rw [HU.out,HW.out]
end Go.Proofs.YtkkeocnnecegbaaGreatDoor
