/- Joint text: JE. By an AI agent. -/
import Derived.Test.YtkkeocnnecegbaaGreatDoorQ19
import Derived.Defers
set_option linter.all false
set_option maxRecDepth 100000
set_option maxHeartbeats 64000000
namespace Go.Proofs.YtkkeocnnecegbaaGreatDoor
open Go.RowKit
theorem jo {fn:Func} {t1 t2:Array Value} {R:Ending→World→Prop} (h:∀ w,(results fn t1).run Tryz.prog w=(results fn t2).run Tryz.prog w):∀ (ds:List Deferred) (u:FrameMode) (w:World),Leaves Tryz.prog fn t1 R ds u w→Leaves Tryz.prog fn t2 R ds u w
 | [],.returning,w,hl=>by
  obtain ⟨v,h1,h2⟩:=hl
  exact⟨v,by rw [← h w]; exact h1,h2⟩
 | [],.panicking c,w,hl=>hl
 | [],.run,w,hl=>hl
 | d :: ds,u,w,hl=>by
  obtain ⟨hu,fv,cap,f,args,h1,h2,h3⟩:=hl
  refine⟨hu,fv,cap,f,args,h1,h2,h3.mono ?_⟩
  intro e u' w' he
  cases e with
  | returned v=>exact jo h ds _ _ he
  | panicked c=>exact jo h ds _ _ he
  | outgrown=>exact he
theorem wG (t1 t2:Array Value) (w:World):(results Tryz.f138 t1).run Tryz.prog w=(results Tryz.f138 t2).run Tryz.prog w:=by
 simp [results,Tryz.results138,go_sem]
theorem xC (w0:World) (A:Option Addr) (c:Nat) (l:List PV) (m:Int) (h0:bg w0 A l) (hm:w0.cell? ⟨3,0,none⟩=some (.int .i64 m)) (_hl:l.length≤1000000) (n:Nat) (hn1:1≤n) (hn2:n≤14) (a:Nat) (x y:Item) (hx:XC w0 A c l x) (hy:XC w0 A c l y)
  (i least R B:Nat) (w:World) (L:List (List UInt8)) (ha:AtI (gns l) i (.mk 21 [] (n:Int) a [x,y])) (hb:Below w0.heap.size w0 w) (hR:w0.heap.size≤R) (hw:WrS w R B A l.length c L) (hL:L.length+(outX least (.mk 21 [] (n:Int) a [x,y])).length≤1000000) (_hle:least≤4) (hno:aA n<least) :
  Calls Tryz.prog 138 #[.pointer (some ⟨R,0,none⟩),.int .i64 (i:Nat),.int .i64 (least:Nat)] w (nk w R B A l.length c (L ++ txt (outX least (.mk 21 [] (n:Int) a [x,y])))):=by
 obtain ⟨⟨a',hg⟩,hax,hay,_⟩:=ha
 obtain ⟨hil,b,o,A3,c3,rfl,x0,x1,x2,x3,x4,hc3,hks⟩:=bR h0 hb hg
 simp only [offs,List.map_cons,List.map_nil,List.length_nil,List.length_cons] at x0 x1 x2 x3 x4 hc3 hks
 rcases hks with hks | ⟨b3,o3,rfl,hks⟩
 ·cases hks
 have lb:=aa x0
 have hRw:R<w.heap.size:=Nat.lt_of_lt_of_le hw.lt hw.top
 have hRB:=hw.lt
 have htop:=hw.top
 have hi0:(0:Int)≤(i:Int):=by omega
 have hi1:(i:Int)<(l.length:Int):=by omega
 have r0:=hw.cell
 obtain ⟨htx,hlen⟩:=yN a x y hno
 have hl3:=(kN n).2
 have hex1:=fun w2 L2 hb2 hw2 hL2=>hx (i+1) (aA n) R B w2 L2 hax hb2 hR hw2 hL2 (by omega)
 have hex2:=fun w2 L2 hb2 hw2 hL2=>hy (i+1+sizeI x) (aA n+1) R B w2 L2 hay hb2 hR hw2 hL2 (by omega)
 have e21:((aA n+1:Nat):Int)=((aA n:Nat):Int)+1:=by omega
 simp only [e21] at hex2
 have hk1:=hks 0 _ rfl
 have hk2:=hks 1 _ rfl
 obtain ⟨i1,hi1'⟩:∃ i1,i1=i+1:=⟨_,rfl⟩
 obtain ⟨i2,hi2'⟩:∃ i2,i2=i+1+sizeI x:=⟨_,rfl⟩
 rw [← hi2'] at hk2 hex2
 rw [← hi1'] at hk1 hex1
 clear e21
 have HE1:=Lib.hid hex1; have HE2:=Lib.hid hex2
 have HK1:=Lib.hid hk1; have HK2:=Lib.hid hk2
 have HW:=Lib.hid hw; have HL:=Lib.hid hL; have HB:=Lib.hid hb
 have HTX:=Lib.hid htx; have HLEN:=Lib.hid hlen
 have HM:=Lib.hid hm
 have HMG:=Lib.hid (xY hn1 hn2)
 have k1:decide (aA n<least)=true:=decide_eq_true hno
 clear hw hL h0 hg hb hks hc3 hax hay hex1 hex2 hk1 hk2 hi1' hi2' htx hlen hm hno
 go_enter_defers Tryz.func138,Tryz.ntmps138
 go_wp2_with fail
 refine (kW n _).mono ?_; rintro e w1 ⟨rfl,rfl⟩
 have hb1:Blk (w.alloc (.cells #[.int .u8 21,.string ⟨#[]⟩,.int .i64 (n:Int),.int .i64 a',.slice (some ⟨b3,o3,none⟩) 2 c3] 43)) w.heap.size 43 #[.int .u8 21,.string ⟨#[]⟩,.int .i64 (n:Int),.int .i64 a',.slice (some ⟨b3,o3,none⟩) 2 c3]:=Blk.new w 43 _
 have HF1:=Lib.hid ((FrW.refl B R w).alloc (.cells #[.int .u8 21,.string ⟨#[]⟩,.int .i64 (n:Int),.int .i64 a',.slice (some ⟨b3,o3,none⟩) 2 c3] 43))
 have hB1:Below w0.heap.size w0 (w.alloc (.cells #[.int .u8 21,.string ⟨#[]⟩,.int .i64 (n:Int),.int .i64 a',.slice (some ⟨b3,o3,none⟩) 2 c3] 43)):=HB.out.alloc (by have:=HB.out.size; omega) _
 have k5:=(hB1.cell (p:=⟨b3,_,none⟩) (aa HK1.out)).trans HK1.out
 simp only [Nat.add_zero] at k5
 have lk5:=aa k5
 have k4:=hb1.cell 4
 have lk4:=hb1.lt
 have HB1:=Lib.hid hB1
 have HBL1:=Lib.hid hb1
 have HW1:=Lib.hid (HW.out.alloc (.cells #[.int .u8 21,.string ⟨#[]⟩,.int .i64 (n:Int),.int .i64 a',.slice (some ⟨b3,o3,none⟩) 2 c3] 43))
 have lX:R<w.heap.size:=hRw
 obtain ⟨X,hX⟩:∃ X,X=w.heap.size:=⟨_,rfl⟩
 rw [← hX] at HBL1 k4 lk4 lX ⊢
 have HXX:=Lib.hid hX
 clear hX hb1 hB1 x0 x1 x2 x3 x4 r0
 generalize w.alloc (.cells #[.int .u8 21,.string ⟨#[]⟩,.int .i64 (n:Int),.int .i64 a',.slice (some ⟨b3,o3,none⟩) 2 c3] 43)=W1 at *
 simp at k4
 clear k4 k5 lk5
 go_wp2_with fail
 refine (aP R B W1.heap.size 1 l.length c _ L [[40]] _ (HW1.out.alloc _) (Blk.new W1 9 _) rfl (by omega) (by have:=HL.out; have:=HLEN.out; omega)).mono ?_
 rintro e w2 ⟨rfl,hw2,hf2⟩
 have HW2:=Lib.hid (hw2.alloc (.cells #[.string ⟨#[41]⟩] 9))
 have hfr:=hw2.fresh (.cells #[.string ⟨#[41]⟩] 9)
 have hkb:Blk (w2.alloc (.cells #[.string ⟨#[41]⟩] 9)) w2.heap.size 9 #[.string ⟨#[41]⟩]:=Blk.new w2 9 _
 have hf2':=((FrW.refl B R W1).alloc (.cells #[.string ⟨#[40]⟩] 9)).trans hf2
 have hbl2:=(hf2'.blk HBL1.out (by omega) (by decide)).alloc (.cells #[.string ⟨#[41]⟩] 9)
 have HF2:=Lib.hid ((HF1.out.trans hf2').alloc (.cells #[.string ⟨#[41]⟩] 9))
 have HB2:=Lib.hid (HB.out.trans (HF2.out.below hR (by omega) (by have:=HB.out.size; omega)))
 have hKR:R<w2.heap.size:=by have:=hfr.1; have:=hw2.top; have:=hw2.lt; omega
 have k4:(w2.alloc (.cells #[.string ⟨#[41]⟩] 9)).cell? ⟨X,4,none⟩=some (.slice (some ⟨b3,o3,none⟩) 2 c3):=hbl2.cell 4
 have k5:=(HB2.out.cell (p:=⟨b3,_,none⟩) (aa HK1.out)).trans HK1.out
 simp only [Nat.add_zero] at k5
 have lk5:=aa k5
 have lk4:=hbl2.lt
 have HBL2:=Lib.hid hbl2
 have HKB:=Lib.hid (And.intro hkb hfr)
 obtain ⟨KK,hKK⟩:∃ KK,KK=w2.heap.size:=⟨_,rfl⟩
 clear hw2 hf2 hf2' hbl2 hkb hfr
 go_wp2_with fail
 rw [← hKK] at HKB hKR ⊢
 clear hKK
 generalize w2.alloc (.cells #[.string ⟨#[41]⟩] 9)=W2 at *
 go_wp2_with fail
 refine (HE1.out W2 _ HB2.out HW2.out (by have:=HL.out; have:=HLEN.out; simp only [List.length_append,List.length_cons,List.length_nil]; omega)).mono ?_
 rintro e w3 ⟨rfl,hw3,hf3⟩
 have HW3:=Lib.hid hw3
 have HF3:=Lib.hid (HF2.out.trans hf3)
 have hb3:=hf3.blk HBL2.out (by omega) (by decide)
 have HKB3:=Lib.hid (hf3.keep HKB.out.1 (by omega) HKB.out.2)
 have HBL3:=Lib.hid hb3
 have HB3:=Lib.hid (HB.out.trans (HF3.out.below hR (by omega) (by have:=HB.out.size; omega)))
 have c2:w3.cell? ⟨X,2,none⟩=some (.int .i64 (n:Int)):=hb3.cell 2
 have lk3:=hb3.lt
 clear hw3 hf3 hb3 k4 k5 lk5 lk4
 have hni0:(0:Int)≤(n:Int):=by omega
 have hni1:(n:Int)<15:=by omega
 go_wp2_with fail
 have hn15:n<15:=by omega
 have hS0:w3.drew.cell? ⟨X,2,none⟩=some (.int .i64 (n:Int)):=c2
 refine wp_region_held_drew (S:=fun w'=>w'.cell? ⟨X,2,none⟩=some (.int .i64 (n:Int))) (by kernel_rfl) hS0 (fun hS=>?_)
 refine wpAnyH_take (i:=0) (v:=.pointer (some ⟨R,0,none⟩)) rfl (by kernel_rfl) (by kernel_rfl) (by kernel_rfl) (fun _ a' _ h=>jo (t1:=(Act.put _ _ _).tmps) (t2:=a'.tmps) (wG _ _) _ _ _ h) (Or.inl ⟨by rfl,?_⟩) hS ?_
 ·intro W hW
  go_simp
 simp only [Act.put,List.setIfInBounds_toArray]
 refine wpAnyH_take (i:=2) (v:=.pointer (some ⟨X,2,none⟩)) rfl (by kernel_rfl) (by kernel_rfl) (by kernel_rfl) (fun _ a' _ h=>jo (t1:=(Act.put _ _ _).tmps) (t2:=a'.tmps) (wG _ _) _ _ _ h) (Or.inl ⟨by rfl,?_⟩) hS ?_
 ·intro W hW
  go_simp
 simp only [Act.put]
 refine wpAnyH_take (i:=3) (v:=.int .i64 (n:Int)) rfl (by kernel_rfl) (by kernel_rfl) (by kernel_rfl) (fun _ a' _ h=>jo (t1:=(Act.put _ _ _).tmps) (t2:=a'.tmps) (wG _ _) _ _ _ h) (Or.inl ⟨by rfl,?_⟩) hS ?_
 ·intro W hW
  go_simp
 simp only [Act.put]
 refine wpAnyH_ready (rs:=[1]) (by kernel_rfl) (by simp) ?_
 refine AllReadyH.cons rfl (fun K hK=>?_) .nil
 go_simp
 change Calls Tryz.prog 178 #[.string mh,.string ⟨#[32]⟩] _ _
 refine (ug w3.drew m ((HB3.out.cell (p:=⟨3,0,none⟩) (aa HM.out)).trans HM.out)).mono ?_
 rintro e w4 ⟨rfl,hK4,hb4⟩
 have hc:w4.cell? ⟨w3.heap.size,n,none⟩=some (.string ⟨(bY n).toArray⟩):=by rw [← HMG.out]; exact oU hK4 n hn15
 have hb4':Below w3.heap.size w3 w4:=⟨hb4.os,hb4.tape,hb4.output,hb4.size,hb4.block⟩
 have e1:w4.cell? ⟨X,2,none⟩=some (.int .i64 (n:Int)):=Blk.cell (show Blk w4 X 43 _ from (hb4.block X lk3).trans HBL3.out) 2
 have e2:=aa hc
 have HF4:=Lib.hid (HF3.out.trans (.of hb4'))
 have HKB4:=Lib.hid ((FrW.of (B:=B) (R:=R) hb4').keep HKB3.out.1 (by omega) HKB3.out.2)
 have HW4:=Lib.hid (HW3.out.below hb4')
 have HBL4:Hid (Blk w4 X 43 _):=Lib.hid ((hb4.block X lk3).trans HBL3.out)
 clear hb4 hb4' hK4
 refine hK.out _ _ e1 (fun hS4=>?_)
 clear hK
 refine wpAnyH_ready (rs:=[4]) (by kernel_rfl) (by simp) ?_
 refine AllReadyH.cons rfl (fun K hK=>?_) .nil
 go_simp
 refine hK.out _ _ hS4 (fun hS4=>?_)
 clear hK
 refine wpAnyH_ready (rs:=[5]) (by kernel_rfl) (by simp) ?_
 refine AllReadyH.cons rfl (fun K hK=>?_) .nil
 go_simp
 refine hK.out _ _ hS4 (fun hS4=>?_)
 clear hK
 refine wpAnyH_ready (rs:=[6]) (by kernel_rfl) (by simp) ?_
 refine AllReadyH.cons rfl (fun K hK=>?_) .nil
 go_simp
 have hS5:(w4.alloc (.cells #[.string ⟨(bY n).toArray⟩] 9)).cell? ⟨X,2,none⟩=some (.int .i64 (n:Int)):=Blk.cell (HBL4.out.alloc _) 2
 refine hK.out _ _ hS5 (fun _=>?_)
 clear hK
 refine wpAnyH_ready (rs:=[7]) (by kernel_rfl) (by simp) ?_
 refine AllReadyH.cons rfl (fun K hK=>?_) .nil
 go_simp
 refine (aP R B w4.heap.size 1 l.length c _ _ [bY n] _ (HW4.out.alloc _) (Blk.new w4 9 _) rfl (by omega) (by have:=HL.out; have:=HLEN.out; simp only [List.length_append,aD,List.length_cons,List.length_nil]; omega)).mono ?_
 rintro e w5 ⟨rfl,hw5,hf5⟩
 have HKB5:=Lib.hid ((((FrW.refl B R w4).alloc (.cells #[.string ⟨(bY n).toArray⟩] 9)).trans hf5).keep HKB4.out.1 (by omega) HKB4.out.2)
 have hb5:=hf5.blk (HBL4.out.alloc _) (by omega) (by decide)
 have hS6:w5.cell? ⟨X,2,none⟩=some (.int .i64 (n:Int)):=hb5.cell 2
 refine hK.out _ _ hS6 (fun _=>?_)
 clear hK
 refine wpAnyH_done (by kernel_rfl) ?_ _
 have HW5:=Lib.hid hw5
 have HF5:=Lib.hid ((HF4.out.alloc _).trans hf5)
 have hB5:Below w0.heap.size w0 w5:=HB.out.trans (HF5.out.below hR (by omega) (by have:=HB.out.size; omega))
 have k4:w5.cell? ⟨X,4,none⟩=some (.slice (some ⟨b3,o3,none⟩) 2 c3):=hb5.cell 4
 have lk4:=hb5.lt
 have k5:=(hB5.cell (p:=⟨b3,_,none⟩) (aa HK2.out)).trans HK2.out
 have lk5:=aa k5
 have HB5:=Lib.hid hB5
 clear hw5 hf5 hb5 hB5 hS4 hS5 hS6 e1 e2 hc c2 lk3
 go_wp2_with fail
 refine (HE2.out w5 _ HB5.out HW5.out (by have:=HL.out; have:=HLEN.out; simp only [List.length_append,aD,List.length_cons,List.length_nil]; omega)).mono ?_
 rintro e w6 ⟨rfl,hw6,hf6⟩
 have HW6:=Lib.hid hw6
 have HF6:=Lib.hid (HF5.out.trans hf6)
 have HKB6:=Lib.hid (hf6.keep HKB5.out.1 (by omega) HKB5.out.2)
 clear hw6 hf6
 go_wp2_with fail
 refine leaves_cons (P:=Tryz.prog) (fn:=Tryz.f138) (R:=nk w R B (some ⟨b,o,none⟩) l.length c (L ++ txt (outX least (.mk 21 [] (n:Int) a [x,y])))) (u:=.returning) (f:=135) (args:=#[.pointer (some ⟨R,0,none⟩),.slice (some ⟨KK,0,none⟩) 1 1]) (by simp) rfl ?_
 refine (KG R B KK 1 l.length c _ _ [[41]] w6 .returning HW6.out HKB6.out.1 rfl (by omega) (by have:=HL.out; have:=HLEN.out; simp only [List.length_append,aD,List.length_cons,List.length_nil]; omega)).mono ?_
 rintro e u w7 ⟨rfl,rfl,hw7,hf7⟩
 refine⟨.tuple #[],?_,rfl,?_,HF6.out.trans hf7⟩
 ·simp [results,Tryz.results138,go_sem]
 ·rw [HTX.out,← List.append_assoc,← List.append_assoc,← List.append_assoc,← List.append_assoc]
  exact hw7
structure dY (w0:World) (A:Option Addr) (l:List PV):Prop where
 nod:bg w0 A l
 tab:nY w0
 max:∃ m,w0.cell? ⟨3,0,none⟩=some (.int .i64 m)
 len:l.length≤1000000
theorem Dm {w0:World} {A:Option Addr} {l:List PV} (h:dY w0 A l) (c:Nat):∀ (N:Nat) (x:Item),sizeI x≤N→WX x→bz x→XC w0 A c l x:=by
 intro N
 induction N with
 | zero=>intro x h; have:=aW x; omega
 | succ N ih =>
  intro x hN hw hg
  obtain ⟨m,hm⟩:=h.max
  rcases fV hw with ⟨n,a,rfl⟩ | ⟨t,a,rfl⟩ | ⟨t,a,y,rfl,hy⟩ | ⟨n,a,y,rfl,hn,hy⟩ | ⟨n,a,y,z,rfl,hn1,hn2,hy,hz⟩
  ·obtain ⟨k,rfl⟩:=Int.eq_ofNat_of_zero_le hg.2.1.1
   exact Fh w0 A c l h.nod h.tab h.len k a (by have:=hg.2.1.2; omega)
  ·exact Di w0 A c l h.nod h.len t a
  ·simp only [sizeI,sizeL] at hN
   exact BU w0 A c l h.nod h.len t a y (ih y (by omega) hy hg.2.2.1)
  ·simp only [sizeI,sizeL] at hN
   exact Il w0 A c l h.nod h.len n hn a y (ih y (by omega) hy hg.2.2.1)
  ·simp only [sizeI,sizeL] at hN
   have h1:=ih y (by omega) hy hg.2.2.1
   have h2:=ih z (by omega) hz hg.2.2.2.1
   intro i least R B w L ha hb hR hw hL hle
   by_cases hlt:aA n<least
   ·exact xC w0 A c l m h.nod hm h.len n (by omega) (by omega) a y z h1 h2 i least R B w L ha hb hR hw hL hle hlt
   ·exact zt w0 A c l m h.nod hm h.len n (by omega) (by omega) a y z h1 h2 i least R B w L ha hb hR hw hL hle hlt
theorem jF {w0:World} {A:Option Addr} {l:List PV} (h:dY w0 A l) (c:Nat) {x:Item} (hw:WX x) (hg:bz x):XC w0 A c l x:=Dm h c _ x (Nat.le_refl _) hw hg
theorem Jk {l:List Item} (h:WXs l):∀ x∈l,WX x:=by
 induction l with
 | nil=>intro x hx; cases hx
 | cons y r ih =>
  intro x hx
  rcases List.mem_cons.1 hx with rfl | hx
  ·exact h.1
  ·exact ih h.2 x hx
theorem jO {w0:World} {A:Option Addr} {l:List PV} (h:dY w0 A l) (c:Nat) (A2:Option Addr) (c2:Nat) (ks:List Item) (hw:WXs ks) (hg:eH ks) (o R B:Nat) (w:World) (L:List (List UInt8)) (hl:ks.length≤1000000) (h0:gU w0 A2 ((offs o ks).map (fun k:Nat=>(k:Int)))) (ha:AtL (gns l) o ks) (hb:Below w0.heap.size w0 w) (hR:w0.heap.size≤R) (hws:WrS w R B A l.length c L) (hL:L.length+(outA true ks).length≤1000000) :
  Calls Tryz.prog 137 #[.pointer (some ⟨R,0,none⟩),.slice A2 ks.length c2] w (nk w R B A l.length c (L ++ txt (outA true ks))) :=
 sN w0 A A2 c c2 l ks (fun y hy=>jF h c (Jk hw y hy) (fT hg y hy)) o R B w L hl h0 ha hb hR hws hL
end Go.Proofs.YtkkeocnnecegbaaGreatDoor
namespace Go.Proofs.YtkkeocnnecegbaaGreatDoor
open Go.RowKit
def SC (w0:World) (A:Option Addr) (c:Nat) (l:List PV) (x:Item) (out:List Tk):Prop :=
 ∀ (i R B:Nat) (w:World) (L:List (List UInt8)),AtI (gns l) i x→Below w0.heap.size w0 w→w0.heap.size≤R→WrS w R B A l.length c L→L.length+out.length≤1000000 →
  Calls Tryz.prog 83 #[.pointer (some ⟨R,0,none⟩),.int .i64 (i:Nat)] w (nk w R B A l.length c (L ++ txt out))
theorem Gj {w0:World} {A:Option Addr} {l:List PV} (h:dY w0 A l) (c:Nat) (t:List UInt8) (a:Nat) (x:Item) (hx:WX x) (hgx:bz x):SC w0 A c l (.mk 6 t 0 a [x]) (outS (.mk 6 t 0 a [x])):=by
 intro i R B w L ha hb hR hw hL
 have hak:=ha.2
 obtain ⟨⟨a',hg⟩,_⟩:=ha
 obtain ⟨hil,b,o,A3,c3,rfl,x0,x1,x2,x3,x4,hc3,hks⟩:=bR h.nod hb hg
 have hks0:=hks
 simp only [offs,List.map_cons,List.map_nil,List.length_nil,List.length_cons] at x0 x1 x2 x3 x4 hc3 hks
 rcases hks with hks | ⟨b3,o3,rfl,hks⟩
 ·cases hks
 have lb:=aa x0
 have hRw:R<w.heap.size:=Nat.lt_of_lt_of_le hw.lt hw.top
 have hRB:=hw.lt
 have htop:=hw.top
 have hi0:(0:Int)≤(i:Int):=by omega
 have hi1:(i:Int)<(l.length:Int):=by omega
 have r0:=hw.cell
 have hk0:=hks 0 _ rfl
 have HK0:=Lib.hid hk0
 clear hk0
 have HEX:=Lib.hid (fun w2 L2 hb2 hw2 hL2=>jO h c _ c3 [x] ⟨hx,trivial⟩ ⟨hgx,trivial⟩ (i+1) R B w2 L2 (by simp) hks0 hak hb2 hR hw2 hL2)
 have htx:txt (outS (.mk 6 t 0 a [x]))=[[118,97,114]] ++ [t,[61]] ++ txt (outA true [x]) ++ [[59]]:=by simp [outS,outA,txt,nm,mk4,wd]
 have hlen:=congrArg List.length htx
 simp only [List.length_append,aD,List.length_cons,List.length_nil] at hlen
 have HTX:=Lib.hid htx; have HLEN:=Lib.hid hlen
 have HW:=Lib.hid hw; have HL:=Lib.hid hL; have HB:=Lib.hid hb
 have HW1:=Lib.hid (hw.alloc (.cells #[.int .u8 6,.string ⟨t.toArray⟩,.int .i64 0,.int .i64 a',.slice (some ⟨b3,o3,none⟩) 1 c3] 43))
 have HF1:=Lib.hid ((FrW.refl B R w).alloc (.cells #[.int .u8 6,.string ⟨t.toArray⟩,.int .i64 0,.int .i64 a',.slice (some ⟨b3,o3,none⟩) 1 c3] 43))
 have HBL1:Hid (Blk (w.alloc (.cells #[.int .u8 6,.string ⟨t.toArray⟩,.int .i64 0,.int .i64 a',.slice (some ⟨b3,o3,none⟩) 1 c3] 43)) w.heap.size 43 _):=Lib.hid (Blk.new w 43 _)
 clear hw hL hg hb hks hc3 hak htx hlen hks0
 go_enter Tryz.func83,Tryz.ntmps83
 go_wp2_with fail
 refine (aP R B (w.heap.size+1) 1 l.length c _ _ [[118,97,114]] _ (HW1.out.alloc _) (dF _ _ _ _ (by simp)) rfl (by omega) (by have:=HL.out; have:=HLEN.out; (try simp only [List.length_append,aD,List.length_cons,List.length_nil]); omega)).mono ?_
 rintro e w2 ⟨rfl,hw,hf⟩
 have HW2:=Lib.hid hw
 have HF2:=Lib.hid ((HF1.out.alloc _).trans hf)
 have hbl:=hf.blk (HBL1.out.alloc _) (by omega) (by decide)
 clear x0 x1 x2 x3 x4 r0
 have k0:w2.cell? ⟨w.heap.size,0,none⟩=some (.int .u8 6):=hbl.cell 0
 have k1:w2.cell? ⟨w.heap.size,1,none⟩=some (.string ⟨t.toArray⟩):=hbl.cell 1
 have k2:w2.cell? ⟨w.heap.size,2,none⟩=some (.int .i64 0):=hbl.cell 2
 have k4:w2.cell? ⟨w.heap.size,4,none⟩=some (.slice (some ⟨b3,o3,none⟩) 1 c3):=hbl.cell 4
 have lk:=hbl.lt
 have q0:=((HB.out.trans (HF2.out.below hR (by omega) (by have:=HB.out.size; omega))).cell (p:=⟨b3,_,none⟩) (aa HK0.out)).trans HK0.out
 simp only [Nat.add_zero] at q0
 have lq0:=aa q0
 have HBL2:=Lib.hid hbl
 clear hw hf hbl
 go_wp2_with fail
 refine (aP R B (w2.heap.size) 2 l.length c _ _ [t,[61]] _ (HW2.out.alloc _) (Blk.new w2 9 _) rfl (by omega) (by have:=HL.out; have:=HLEN.out; (try simp only [List.length_append,List.length_cons,List.length_nil]); omega)).mono ?_
 rintro e w3 ⟨rfl,hw,hf⟩
 have HW3:=Lib.hid hw
 have HF3:=Lib.hid ((HF2.out.alloc _).trans hf)
 have hbl:=hf.blk (HBL2.out.alloc _) (by omega) (by decide)
 clear k0 k1 k2 k4 lk q0 lq0
 have k0:w3.cell? ⟨w.heap.size,0,none⟩=some (.int .u8 6):=hbl.cell 0
 have k1:w3.cell? ⟨w.heap.size,1,none⟩=some (.string ⟨t.toArray⟩):=hbl.cell 1
 have k2:w3.cell? ⟨w.heap.size,2,none⟩=some (.int .i64 0):=hbl.cell 2
 have k4:w3.cell? ⟨w.heap.size,4,none⟩=some (.slice (some ⟨b3,o3,none⟩) 1 c3):=hbl.cell 4
 have lk:=hbl.lt
 have q0:=((HB.out.trans (HF3.out.below hR (by omega) (by have:=HB.out.size; omega))).cell (p:=⟨b3,_,none⟩) (aa HK0.out)).trans HK0.out
 simp only [Nat.add_zero] at q0
 have lq0:=aa q0
 have HBL3:=Lib.hid hbl
 clear hw hf hbl
 go_wp2_with fail
 refine (HEX.out w3 _ (HB.out.trans (HF3.out.below hR (by omega) (by have:=HB.out.size; omega))) HW3.out (by have:=HL.out; have:=HLEN.out; (try simp only [List.length_append,List.length_cons,List.length_nil]); omega)).mono ?_
 rintro e w4 ⟨rfl,hw,hf⟩
 have HW4:=Lib.hid hw
 have HF4:=Lib.hid (HF3.out.trans hf)
 have hbl:=hf.blk HBL3.out (by omega) (by decide)
 clear k0 k1 k2 k4 lk q0 lq0
 have k0:w4.cell? ⟨w.heap.size,0,none⟩=some (.int .u8 6):=hbl.cell 0
 have k1:w4.cell? ⟨w.heap.size,1,none⟩=some (.string ⟨t.toArray⟩):=hbl.cell 1
 have k2:w4.cell? ⟨w.heap.size,2,none⟩=some (.int .i64 0):=hbl.cell 2
 have k4:w4.cell? ⟨w.heap.size,4,none⟩=some (.slice (some ⟨b3,o3,none⟩) 1 c3):=hbl.cell 4
 have lk:=hbl.lt
 have q0:=((HB.out.trans (HF4.out.below hR (by omega) (by have:=HB.out.size; omega))).cell (p:=⟨b3,_,none⟩) (aa HK0.out)).trans HK0.out
 simp only [Nat.add_zero] at q0
 have lq0:=aa q0
 have HBL4:=Lib.hid hbl
 clear hw hf hbl
 go_wp2_with fail
 refine (aP R B (w4.heap.size) 1 l.length c _ _ [[59]] _ (HW4.out.alloc _) (Blk.new w4 9 _) rfl (by omega) (by have:=HL.out; have:=HLEN.out; (try simp only [List.length_append,aD,List.length_cons,List.length_nil]); omega)).mono ?_
 rintro e w5 ⟨rfl,hw,hf⟩
 have HW5:=Lib.hid hw
 have HF5:=Lib.hid ((HF4.out.alloc _).trans hf)
 have hbl:=hf.blk (HBL4.out.alloc _) (by omega) (by decide)
 clear k0 k1 k2 k4 lk q0 lq0
 have k0:w5.cell? ⟨w.heap.size,0,none⟩=some (.int .u8 6):=hbl.cell 0
 have k1:w5.cell? ⟨w.heap.size,1,none⟩=some (.string ⟨t.toArray⟩):=hbl.cell 1
 have k2:w5.cell? ⟨w.heap.size,2,none⟩=some (.int .i64 0):=hbl.cell 2
 have k4:w5.cell? ⟨w.heap.size,4,none⟩=some (.slice (some ⟨b3,o3,none⟩) 1 c3):=hbl.cell 4
 have lk:=hbl.lt
 have q0:=((HB.out.trans (HF5.out.below hR (by omega) (by have:=HB.out.size; omega))).cell (p:=⟨b3,_,none⟩) (aa HK0.out)).trans HK0.out
 simp only [Nat.add_zero] at q0
 have lq0:=aa q0
 have HBL5:=Lib.hid hbl
 clear hw hf hbl
 go_wp2_with fail
 go_end0
 refine⟨rfl,?_,HF5.out⟩
 rw [HTX.out]
 simpa only [List.append_assoc] using HW5.out
theorem yY {w0:World} {A:Option Addr} {l:List PV} (h:dY w0 A l) (c:Nat) (t:List UInt8) (a:Nat) (x:Item) (hx:WX x) (hgx:bz x):SC w0 A c l (.mk 7 t 0 a [x]) (outS (.mk 7 t 0 a [x])):=by
 intro i R B w L ha hb hR hw hL
 have hak:=ha.2
 obtain ⟨⟨a',hg⟩,_⟩:=ha
 obtain ⟨hil,b,o,A3,c3,rfl,x0,x1,x2,x3,x4,hc3,hks⟩:=bR h.nod hb hg
 have hks0:=hks
 simp only [offs,List.map_cons,List.map_nil,List.length_nil,List.length_cons] at x0 x1 x2 x3 x4 hc3 hks
 rcases hks with hks | ⟨b3,o3,rfl,hks⟩
 ·cases hks
 have lb:=aa x0
 have hRw:R<w.heap.size:=Nat.lt_of_lt_of_le hw.lt hw.top
 have hRB:=hw.lt
 have htop:=hw.top
 have hi0:(0:Int)≤(i:Int):=by omega
 have hi1:(i:Int)<(l.length:Int):=by omega
 have r0:=hw.cell
 have hk0:=hks 0 _ rfl
 have HK0:=Lib.hid hk0
 clear hk0
 have HEX:=Lib.hid (fun w2 L2 hb2 hw2 hL2=>jO h c _ c3 [x] ⟨hx,trivial⟩ ⟨hgx,trivial⟩ (i+1) R B w2 L2 (by simp) hks0 hak hb2 hR hw2 hL2)
 have htx:txt (outS (.mk 7 t 0 a [x]))=[t,[61]] ++ txt (outA true [x]) ++ [[59]]:=by simp [outS,outA,txt,nm,mk4]
 have hlen:=congrArg List.length htx
 simp only [List.length_append,aD,List.length_cons,List.length_nil] at hlen
 have HTX:=Lib.hid htx; have HLEN:=Lib.hid hlen
 have HW:=Lib.hid hw; have HL:=Lib.hid hL; have HB:=Lib.hid hb
 have HW1:=Lib.hid (hw.alloc (.cells #[.int .u8 7,.string ⟨t.toArray⟩,.int .i64 0,.int .i64 a',.slice (some ⟨b3,o3,none⟩) 1 c3] 43))
 have HF1:=Lib.hid ((FrW.refl B R w).alloc (.cells #[.int .u8 7,.string ⟨t.toArray⟩,.int .i64 0,.int .i64 a',.slice (some ⟨b3,o3,none⟩) 1 c3] 43))
 have HBL1:Hid (Blk (w.alloc (.cells #[.int .u8 7,.string ⟨t.toArray⟩,.int .i64 0,.int .i64 a',.slice (some ⟨b3,o3,none⟩) 1 c3] 43)) w.heap.size 43 _):=Lib.hid (Blk.new w 43 _)
 clear hw hL hg hb hks hc3 hak htx hlen hks0
 go_enter Tryz.func83,Tryz.ntmps83
 go_wp2_with fail
 refine (aP R B (w.heap.size+1) 2 l.length c _ _ [t,[61]] _ (HW1.out.alloc _) (dF _ _ _ _ (by simp)) rfl (by omega) (by have:=HL.out; have:=HLEN.out; (try simp only [List.length_append,aD,List.length_cons,List.length_nil]); omega)).mono ?_
 rintro e w2 ⟨rfl,hw,hf⟩
 have HW2:=Lib.hid hw
 have HF2:=Lib.hid ((HF1.out.alloc _).trans hf)
 have hbl:=hf.blk (HBL1.out.alloc _) (by omega) (by decide)
 clear x0 x1 x2 x3 x4 r0
 have k0:w2.cell? ⟨w.heap.size,0,none⟩=some (.int .u8 7):=hbl.cell 0
 have k1:w2.cell? ⟨w.heap.size,1,none⟩=some (.string ⟨t.toArray⟩):=hbl.cell 1
 have k2:w2.cell? ⟨w.heap.size,2,none⟩=some (.int .i64 0):=hbl.cell 2
 have k4:w2.cell? ⟨w.heap.size,4,none⟩=some (.slice (some ⟨b3,o3,none⟩) 1 c3):=hbl.cell 4
 have lk:=hbl.lt
 have q0:=((HB.out.trans (HF2.out.below hR (by omega) (by have:=HB.out.size; omega))).cell (p:=⟨b3,_,none⟩) (aa HK0.out)).trans HK0.out
 simp only [Nat.add_zero] at q0
 have lq0:=aa q0
 have HBL2:=Lib.hid hbl
 clear hw hf hbl
 go_wp2_with fail
 refine (HEX.out w2 _ (HB.out.trans (HF2.out.below hR (by omega) (by have:=HB.out.size; omega))) HW2.out (by have:=HL.out; have:=HLEN.out; (try simp only [List.length_append,List.length_cons,List.length_nil]); omega)).mono ?_
 rintro e w3 ⟨rfl,hw,hf⟩
 have HW3:=Lib.hid hw
 have HF3:=Lib.hid (HF2.out.trans hf)
 have hbl:=hf.blk HBL2.out (by omega) (by decide)
 clear k0 k1 k2 k4 lk q0 lq0
 have k0:w3.cell? ⟨w.heap.size,0,none⟩=some (.int .u8 7):=hbl.cell 0
 have k1:w3.cell? ⟨w.heap.size,1,none⟩=some (.string ⟨t.toArray⟩):=hbl.cell 1
 have k2:w3.cell? ⟨w.heap.size,2,none⟩=some (.int .i64 0):=hbl.cell 2
 have k4:w3.cell? ⟨w.heap.size,4,none⟩=some (.slice (some ⟨b3,o3,none⟩) 1 c3):=hbl.cell 4
 have lk:=hbl.lt
 have q0:=((HB.out.trans (HF3.out.below hR (by omega) (by have:=HB.out.size; omega))).cell (p:=⟨b3,_,none⟩) (aa HK0.out)).trans HK0.out
 simp only [Nat.add_zero] at q0
 have lq0:=aa q0
 have HBL3:=Lib.hid hbl
 clear hw hf hbl
 go_wp2_with fail
 refine (aP R B (w3.heap.size) 1 l.length c _ _ [[59]] _ (HW3.out.alloc _) (Blk.new w3 9 _) rfl (by omega) (by have:=HL.out; have:=HLEN.out; (try simp only [List.length_append,aD,List.length_cons,List.length_nil]); omega)).mono ?_
 rintro e w4 ⟨rfl,hw,hf⟩
 have HW4:=Lib.hid hw
 have HF4:=Lib.hid ((HF3.out.alloc _).trans hf)
 have hbl:=hf.blk (HBL3.out.alloc _) (by omega) (by decide)
 clear k0 k1 k2 k4 lk q0 lq0
 have k0:w4.cell? ⟨w.heap.size,0,none⟩=some (.int .u8 7):=hbl.cell 0
 have k1:w4.cell? ⟨w.heap.size,1,none⟩=some (.string ⟨t.toArray⟩):=hbl.cell 1
 have k2:w4.cell? ⟨w.heap.size,2,none⟩=some (.int .i64 0):=hbl.cell 2
 have k4:w4.cell? ⟨w.heap.size,4,none⟩=some (.slice (some ⟨b3,o3,none⟩) 1 c3):=hbl.cell 4
 have lk:=hbl.lt
 have q0:=((HB.out.trans (HF4.out.below hR (by omega) (by have:=HB.out.size; omega))).cell (p:=⟨b3,_,none⟩) (aa HK0.out)).trans HK0.out
 simp only [Nat.add_zero] at q0
 have lq0:=aa q0
 have HBL4:=Lib.hid hbl
 clear hw hf hbl
 go_wp2_with fail
 go_end0
 refine⟨rfl,?_,HF4.out⟩
 rw [HTX.out]
 simpa only [List.append_assoc] using HW4.out
theorem za {w0:World} {A:Option Addr} {l:List PV} (h:dY w0 A l) (c:Nat) (a:Nat) (x:Item) (hx:WX x) (hgx:bz x):SC w0 A c l (.mk 11 [] 0 a [x]) (outS (.mk 11 [] 0 a [x])):=by
 intro i R B w L ha hb hR hw hL
 have hak:=ha.2
 obtain ⟨⟨a',hg⟩,_⟩:=ha
 obtain ⟨hil,b,o,A3,c3,rfl,x0,x1,x2,x3,x4,hc3,hks⟩:=bR h.nod hb hg
 have hks0:=hks
 simp only [offs,List.map_cons,List.map_nil,List.length_nil,List.length_cons] at x0 x1 x2 x3 x4 hc3 hks
 rcases hks with hks | ⟨b3,o3,rfl,hks⟩
 ·cases hks
 have lb:=aa x0
 have hRw:R<w.heap.size:=Nat.lt_of_lt_of_le hw.lt hw.top
 have hRB:=hw.lt
 have htop:=hw.top
 have hi0:(0:Int)≤(i:Int):=by omega
 have hi1:(i:Int)<(l.length:Int):=by omega
 have r0:=hw.cell
 have hk0:=hks 0 _ rfl
 have HK0:=Lib.hid hk0
 clear hk0
 have HEX:=Lib.hid (fun w2 L2 hb2 hw2 hL2=>jO h c _ c3 [x] ⟨hx,trivial⟩ ⟨hgx,trivial⟩ (i+1) R B w2 L2 (by simp) hks0 hak hb2 hR hw2 hL2)
 have htx:txt (outS (.mk 11 [] 0 a [x]))=[[114,101,116,117,114,110]] ++ txt (outA true [x]) ++ [[59]]:=by simp [outS,outA,txt,mk4,wd]
 have hlen:=congrArg List.length htx
 simp only [List.length_append,aD,List.length_cons,List.length_nil] at hlen
 have HTX:=Lib.hid htx; have HLEN:=Lib.hid hlen
 have HW:=Lib.hid hw; have HL:=Lib.hid hL; have HB:=Lib.hid hb
 have HW1:=Lib.hid (hw.alloc (.cells #[.int .u8 11,.string ⟨#[]⟩,.int .i64 0,.int .i64 a',.slice (some ⟨b3,o3,none⟩) 1 c3] 43))
 have HF1:=Lib.hid ((FrW.refl B R w).alloc (.cells #[.int .u8 11,.string ⟨#[]⟩,.int .i64 0,.int .i64 a',.slice (some ⟨b3,o3,none⟩) 1 c3] 43))
 have HBL1:Hid (Blk (w.alloc (.cells #[.int .u8 11,.string ⟨#[]⟩,.int .i64 0,.int .i64 a',.slice (some ⟨b3,o3,none⟩) 1 c3] 43)) w.heap.size 43 _):=Lib.hid (Blk.new w 43 _)
 clear hw hL hg hb hks hc3 hak htx hlen hks0
 go_enter Tryz.func83,Tryz.ntmps83
 go_wp2_with fail
 refine (aP R B (w.heap.size+1+1) 1 l.length c _ _ [[114,101,116,117,114,110]] _ ((HW1.out.alloc (.cells #[.string ⟨#[114,101,116,117,114,110]⟩,.string ⟨#[112,114,105,110,116]⟩,.string ⟨#[101,120,105,116]⟩] 9)).alloc _) (dF _ _ _ _ (by simp)) rfl (by omega) (by have:=HL.out; have:=HLEN.out; (try simp only [List.length_append,aD,List.length_cons,List.length_nil]); omega)).mono ?_
 rintro e w2 ⟨rfl,hw,hf⟩
 have HW2:=Lib.hid hw
 have HF2:=Lib.hid (((HF1.out.alloc (.cells #[.string ⟨#[114,101,116,117,114,110]⟩,.string ⟨#[112,114,105,110,116]⟩,.string ⟨#[101,120,105,116]⟩] 9)).alloc _).trans hf)
 have hbl:=hf.blk ((HBL1.out.alloc (.cells #[.string ⟨#[114,101,116,117,114,110]⟩,.string ⟨#[112,114,105,110,116]⟩,.string ⟨#[101,120,105,116]⟩] 9)).alloc _) (by omega) (by decide)
 clear x0 x1 x2 x3 x4 r0
 have k0:w2.cell? ⟨w.heap.size,0,none⟩=some (.int .u8 11):=hbl.cell 0
 have k1:w2.cell? ⟨w.heap.size,1,none⟩=some (.string ⟨#[]⟩):=hbl.cell 1
 have k2:w2.cell? ⟨w.heap.size,2,none⟩=some (.int .i64 0):=hbl.cell 2
 have k4:w2.cell? ⟨w.heap.size,4,none⟩=some (.slice (some ⟨b3,o3,none⟩) 1 c3):=hbl.cell 4
 have lk:=hbl.lt
 have q0:=((HB.out.trans (HF2.out.below hR (by omega) (by have:=HB.out.size; omega))).cell (p:=⟨b3,_,none⟩) (aa HK0.out)).trans HK0.out
 simp only [Nat.add_zero] at q0
 have lq0:=aa q0
 have HBL2:=Lib.hid hbl
 clear hw hf hbl
 go_wp2_with fail
 refine (HEX.out w2 _ (HB.out.trans (HF2.out.below hR (by omega) (by have:=HB.out.size; omega))) HW2.out (by have:=HL.out; have:=HLEN.out; (try simp only [List.length_append,List.length_cons,List.length_nil]); omega)).mono ?_
 rintro e w3 ⟨rfl,hw,hf⟩
 have HW3:=Lib.hid hw
 have HF3:=Lib.hid (HF2.out.trans hf)
 have hbl:=hf.blk HBL2.out (by omega) (by decide)
 clear k0 k1 k2 k4 lk q0 lq0
 have k0:w3.cell? ⟨w.heap.size,0,none⟩=some (.int .u8 11):=hbl.cell 0
 have k1:w3.cell? ⟨w.heap.size,1,none⟩=some (.string ⟨#[]⟩):=hbl.cell 1
 have k2:w3.cell? ⟨w.heap.size,2,none⟩=some (.int .i64 0):=hbl.cell 2
 have k4:w3.cell? ⟨w.heap.size,4,none⟩=some (.slice (some ⟨b3,o3,none⟩) 1 c3):=hbl.cell 4
 have lk:=hbl.lt
 have q0:=((HB.out.trans (HF3.out.below hR (by omega) (by have:=HB.out.size; omega))).cell (p:=⟨b3,_,none⟩) (aa HK0.out)).trans HK0.out
 simp only [Nat.add_zero] at q0
 have lq0:=aa q0
 have HBL3:=Lib.hid hbl
 clear hw hf hbl
 go_wp2_with fail
 refine (aP R B (w3.heap.size) 1 l.length c _ _ [[59]] _ (HW3.out.alloc _) (Blk.new w3 9 _) rfl (by omega) (by have:=HL.out; have:=HLEN.out; (try simp only [List.length_append,aD,List.length_cons,List.length_nil]); omega)).mono ?_
 rintro e w4 ⟨rfl,hw,hf⟩
 have HW4:=Lib.hid hw
 have HF4:=Lib.hid ((HF3.out.alloc _).trans hf)
 have hbl:=hf.blk (HBL3.out.alloc _) (by omega) (by decide)
 clear k0 k1 k2 k4 lk q0 lq0
 have k0:w4.cell? ⟨w.heap.size,0,none⟩=some (.int .u8 11):=hbl.cell 0
 have k1:w4.cell? ⟨w.heap.size,1,none⟩=some (.string ⟨#[]⟩):=hbl.cell 1
 have k2:w4.cell? ⟨w.heap.size,2,none⟩=some (.int .i64 0):=hbl.cell 2
 have k4:w4.cell? ⟨w.heap.size,4,none⟩=some (.slice (some ⟨b3,o3,none⟩) 1 c3):=hbl.cell 4
 have lk:=hbl.lt
 have q0:=((HB.out.trans (HF4.out.below hR (by omega) (by have:=HB.out.size; omega))).cell (p:=⟨b3,_,none⟩) (aa HK0.out)).trans HK0.out
 simp only [Nat.add_zero] at q0
 have lq0:=aa q0
 have HBL4:=Lib.hid hbl
 clear hw hf hbl
 go_wp2_with fail
 go_end0
 refine⟨rfl,?_,HF4.out⟩
 rw [HTX.out]
 simpa only [List.append_assoc] using HW4.out
theorem BM {w0:World} {A:Option Addr} {l:List PV} (h:dY w0 A l) (c:Nat) (a:Nat) (x:Item) (hx:WX x) (hgx:bz x):SC w0 A c l (.mk 12 [] 0 a [x]) (outS (.mk 12 [] 0 a [x])):=by
 intro i R B w L ha hb hR hw hL
 have hak:=ha.2
 obtain ⟨⟨a',hg⟩,_⟩:=ha
 obtain ⟨hil,b,o,A3,c3,rfl,x0,x1,x2,x3,x4,hc3,hks⟩:=bR h.nod hb hg
 have hks0:=hks
 simp only [offs,List.map_cons,List.map_nil,List.length_nil,List.length_cons] at x0 x1 x2 x3 x4 hc3 hks
 rcases hks with hks | ⟨b3,o3,rfl,hks⟩
 ·cases hks
 have lb:=aa x0
 have hRw:R<w.heap.size:=Nat.lt_of_lt_of_le hw.lt hw.top
 have hRB:=hw.lt
 have htop:=hw.top
 have hi0:(0:Int)≤(i:Int):=by omega
 have hi1:(i:Int)<(l.length:Int):=by omega
 have r0:=hw.cell
 have hk0:=hks 0 _ rfl
 have HK0:=Lib.hid hk0
 clear hk0
 have HEX:=Lib.hid (fun w2 L2 hb2 hw2 hL2=>jO h c _ c3 [x] ⟨hx,trivial⟩ ⟨hgx,trivial⟩ (i+1) R B w2 L2 (by simp) hks0 hak hb2 hR hw2 hL2)
 have htx:txt (outS (.mk 12 [] 0 a [x]))=[[112,114,105,110,116]] ++ txt (outA true [x]) ++ [[59]]:=by simp [outS,outA,txt,mk4,wd]
 have hlen:=congrArg List.length htx
 simp only [List.length_append,aD,List.length_cons,List.length_nil] at hlen
 have HTX:=Lib.hid htx; have HLEN:=Lib.hid hlen
 have HW:=Lib.hid hw; have HL:=Lib.hid hL; have HB:=Lib.hid hb
 have HW1:=Lib.hid (hw.alloc (.cells #[.int .u8 12,.string ⟨#[]⟩,.int .i64 0,.int .i64 a',.slice (some ⟨b3,o3,none⟩) 1 c3] 43))
 have HF1:=Lib.hid ((FrW.refl B R w).alloc (.cells #[.int .u8 12,.string ⟨#[]⟩,.int .i64 0,.int .i64 a',.slice (some ⟨b3,o3,none⟩) 1 c3] 43))
 have HBL1:Hid (Blk (w.alloc (.cells #[.int .u8 12,.string ⟨#[]⟩,.int .i64 0,.int .i64 a',.slice (some ⟨b3,o3,none⟩) 1 c3] 43)) w.heap.size 43 _):=Lib.hid (Blk.new w 43 _)
 clear hw hL hg hb hks hc3 hak htx hlen hks0
 go_enter Tryz.func83,Tryz.ntmps83
 go_wp2_with fail
 refine (aP R B (w.heap.size+1+1) 1 l.length c _ _ [[112,114,105,110,116]] _ ((HW1.out.alloc (.cells #[.string ⟨#[114,101,116,117,114,110]⟩,.string ⟨#[112,114,105,110,116]⟩,.string ⟨#[101,120,105,116]⟩] 9)).alloc _) (dF _ _ _ _ (by simp)) rfl (by omega) (by have:=HL.out; have:=HLEN.out; (try simp only [List.length_append,aD,List.length_cons,List.length_nil]); omega)).mono ?_
 rintro e w2 ⟨rfl,hw,hf⟩
 have HW2:=Lib.hid hw
 have HF2:=Lib.hid (((HF1.out.alloc (.cells #[.string ⟨#[114,101,116,117,114,110]⟩,.string ⟨#[112,114,105,110,116]⟩,.string ⟨#[101,120,105,116]⟩] 9)).alloc _).trans hf)
 have hbl:=hf.blk ((HBL1.out.alloc (.cells #[.string ⟨#[114,101,116,117,114,110]⟩,.string ⟨#[112,114,105,110,116]⟩,.string ⟨#[101,120,105,116]⟩] 9)).alloc _) (by omega) (by decide)
 clear x0 x1 x2 x3 x4 r0
 have k0:w2.cell? ⟨w.heap.size,0,none⟩=some (.int .u8 12):=hbl.cell 0
 have k1:w2.cell? ⟨w.heap.size,1,none⟩=some (.string ⟨#[]⟩):=hbl.cell 1
 have k2:w2.cell? ⟨w.heap.size,2,none⟩=some (.int .i64 0):=hbl.cell 2
 have k4:w2.cell? ⟨w.heap.size,4,none⟩=some (.slice (some ⟨b3,o3,none⟩) 1 c3):=hbl.cell 4
 have lk:=hbl.lt
 have q0:=((HB.out.trans (HF2.out.below hR (by omega) (by have:=HB.out.size; omega))).cell (p:=⟨b3,_,none⟩) (aa HK0.out)).trans HK0.out
 simp only [Nat.add_zero] at q0
 have lq0:=aa q0
 have HBL2:=Lib.hid hbl
 clear hw hf hbl
 go_wp2_with fail
 refine (HEX.out w2 _ (HB.out.trans (HF2.out.below hR (by omega) (by have:=HB.out.size; omega))) HW2.out (by have:=HL.out; have:=HLEN.out; (try simp only [List.length_append,List.length_cons,List.length_nil]); omega)).mono ?_
 rintro e w3 ⟨rfl,hw,hf⟩
 have HW3:=Lib.hid hw
 have HF3:=Lib.hid (HF2.out.trans hf)
 have hbl:=hf.blk HBL2.out (by omega) (by decide)
 clear k0 k1 k2 k4 lk q0 lq0
 have k0:w3.cell? ⟨w.heap.size,0,none⟩=some (.int .u8 12):=hbl.cell 0
 have k1:w3.cell? ⟨w.heap.size,1,none⟩=some (.string ⟨#[]⟩):=hbl.cell 1
 have k2:w3.cell? ⟨w.heap.size,2,none⟩=some (.int .i64 0):=hbl.cell 2
 have k4:w3.cell? ⟨w.heap.size,4,none⟩=some (.slice (some ⟨b3,o3,none⟩) 1 c3):=hbl.cell 4
 have lk:=hbl.lt
 have q0:=((HB.out.trans (HF3.out.below hR (by omega) (by have:=HB.out.size; omega))).cell (p:=⟨b3,_,none⟩) (aa HK0.out)).trans HK0.out
 simp only [Nat.add_zero] at q0
 have lq0:=aa q0
 have HBL3:=Lib.hid hbl
 clear hw hf hbl
 go_wp2_with fail
 refine (aP R B (w3.heap.size) 1 l.length c _ _ [[59]] _ (HW3.out.alloc _) (Blk.new w3 9 _) rfl (by omega) (by have:=HL.out; have:=HLEN.out; (try simp only [List.length_append,aD,List.length_cons,List.length_nil]); omega)).mono ?_
 rintro e w4 ⟨rfl,hw,hf⟩
 have HW4:=Lib.hid hw
 have HF4:=Lib.hid ((HF3.out.alloc _).trans hf)
 have hbl:=hf.blk (HBL3.out.alloc _) (by omega) (by decide)
 clear k0 k1 k2 k4 lk q0 lq0
 have k0:w4.cell? ⟨w.heap.size,0,none⟩=some (.int .u8 12):=hbl.cell 0
 have k1:w4.cell? ⟨w.heap.size,1,none⟩=some (.string ⟨#[]⟩):=hbl.cell 1
 have k2:w4.cell? ⟨w.heap.size,2,none⟩=some (.int .i64 0):=hbl.cell 2
 have k4:w4.cell? ⟨w.heap.size,4,none⟩=some (.slice (some ⟨b3,o3,none⟩) 1 c3):=hbl.cell 4
 have lk:=hbl.lt
 have q0:=((HB.out.trans (HF4.out.below hR (by omega) (by have:=HB.out.size; omega))).cell (p:=⟨b3,_,none⟩) (aa HK0.out)).trans HK0.out
 simp only [Nat.add_zero] at q0
 have lq0:=aa q0
 have HBL4:=Lib.hid hbl
 clear hw hf hbl
 go_wp2_with fail
 go_end0
 refine⟨rfl,?_,HF4.out⟩
 rw [HTX.out]
 simpa only [List.append_assoc] using HW4.out
theorem Dp {w0:World} {A:Option Addr} {l:List PV} (h:dY w0 A l) (c:Nat) (a:Nat) (x:Item) (hx:WX x) (hgx:bz x):SC w0 A c l (.mk 13 [] 0 a [x]) (outS (.mk 13 [] 0 a [x])):=by
 intro i R B w L ha hb hR hw hL
 have hak:=ha.2
 obtain ⟨⟨a',hg⟩,_⟩:=ha
 obtain ⟨hil,b,o,A3,c3,rfl,x0,x1,x2,x3,x4,hc3,hks⟩:=bR h.nod hb hg
 have hks0:=hks
 simp only [offs,List.map_cons,List.map_nil,List.length_nil,List.length_cons] at x0 x1 x2 x3 x4 hc3 hks
 rcases hks with hks | ⟨b3,o3,rfl,hks⟩
 ·cases hks
 have lb:=aa x0
 have hRw:R<w.heap.size:=Nat.lt_of_lt_of_le hw.lt hw.top
 have hRB:=hw.lt
 have htop:=hw.top
 have hi0:(0:Int)≤(i:Int):=by omega
 have hi1:(i:Int)<(l.length:Int):=by omega
 have r0:=hw.cell
 have hk0:=hks 0 _ rfl
 have HK0:=Lib.hid hk0
 clear hk0
 have HEX:=Lib.hid (fun w2 L2 hb2 hw2 hL2=>jO h c _ c3 [x] ⟨hx,trivial⟩ ⟨hgx,trivial⟩ (i+1) R B w2 L2 (by simp) hks0 hak hb2 hR hw2 hL2)
 have htx:txt (outS (.mk 13 [] 0 a [x]))=[[101,120,105,116]] ++ txt (outA true [x]) ++ [[59]]:=by simp [outS,outA,txt,mk4,wd]
 have hlen:=congrArg List.length htx
 simp only [List.length_append,aD,List.length_cons,List.length_nil] at hlen
 have HTX:=Lib.hid htx; have HLEN:=Lib.hid hlen
 have HW:=Lib.hid hw; have HL:=Lib.hid hL; have HB:=Lib.hid hb
 have HW1:=Lib.hid (hw.alloc (.cells #[.int .u8 13,.string ⟨#[]⟩,.int .i64 0,.int .i64 a',.slice (some ⟨b3,o3,none⟩) 1 c3] 43))
 have HF1:=Lib.hid ((FrW.refl B R w).alloc (.cells #[.int .u8 13,.string ⟨#[]⟩,.int .i64 0,.int .i64 a',.slice (some ⟨b3,o3,none⟩) 1 c3] 43))
 have HBL1:Hid (Blk (w.alloc (.cells #[.int .u8 13,.string ⟨#[]⟩,.int .i64 0,.int .i64 a',.slice (some ⟨b3,o3,none⟩) 1 c3] 43)) w.heap.size 43 _):=Lib.hid (Blk.new w 43 _)
 clear hw hL hg hb hks hc3 hak htx hlen hks0
 go_enter Tryz.func83,Tryz.ntmps83
 go_wp2_with fail
 refine (aP R B (w.heap.size+1+1) 1 l.length c _ _ [[101,120,105,116]] _ ((HW1.out.alloc (.cells #[.string ⟨#[114,101,116,117,114,110]⟩,.string ⟨#[112,114,105,110,116]⟩,.string ⟨#[101,120,105,116]⟩] 9)).alloc _) (dF _ _ _ _ (by simp)) rfl (by omega) (by have:=HL.out; have:=HLEN.out; (try simp only [List.length_append,aD,List.length_cons,List.length_nil]); omega)).mono ?_
 rintro e w2 ⟨rfl,hw,hf⟩
 have HW2:=Lib.hid hw
 have HF2:=Lib.hid (((HF1.out.alloc (.cells #[.string ⟨#[114,101,116,117,114,110]⟩,.string ⟨#[112,114,105,110,116]⟩,.string ⟨#[101,120,105,116]⟩] 9)).alloc _).trans hf)
 have hbl:=hf.blk ((HBL1.out.alloc (.cells #[.string ⟨#[114,101,116,117,114,110]⟩,.string ⟨#[112,114,105,110,116]⟩,.string ⟨#[101,120,105,116]⟩] 9)).alloc _) (by omega) (by decide)
 clear x0 x1 x2 x3 x4 r0
 have k0:w2.cell? ⟨w.heap.size,0,none⟩=some (.int .u8 13):=hbl.cell 0
 have k1:w2.cell? ⟨w.heap.size,1,none⟩=some (.string ⟨#[]⟩):=hbl.cell 1
 have k2:w2.cell? ⟨w.heap.size,2,none⟩=some (.int .i64 0):=hbl.cell 2
 have k4:w2.cell? ⟨w.heap.size,4,none⟩=some (.slice (some ⟨b3,o3,none⟩) 1 c3):=hbl.cell 4
 have lk:=hbl.lt
 have q0:=((HB.out.trans (HF2.out.below hR (by omega) (by have:=HB.out.size; omega))).cell (p:=⟨b3,_,none⟩) (aa HK0.out)).trans HK0.out
 simp only [Nat.add_zero] at q0
 have lq0:=aa q0
 have HBL2:=Lib.hid hbl
 clear hw hf hbl
 go_wp2_with fail
 refine (HEX.out w2 _ (HB.out.trans (HF2.out.below hR (by omega) (by have:=HB.out.size; omega))) HW2.out (by have:=HL.out; have:=HLEN.out; (try simp only [List.length_append,List.length_cons,List.length_nil]); omega)).mono ?_
 rintro e w3 ⟨rfl,hw,hf⟩
 have HW3:=Lib.hid hw
 have HF3:=Lib.hid (HF2.out.trans hf)
 have hbl:=hf.blk HBL2.out (by omega) (by decide)
 clear k0 k1 k2 k4 lk q0 lq0
 have k0:w3.cell? ⟨w.heap.size,0,none⟩=some (.int .u8 13):=hbl.cell 0
 have k1:w3.cell? ⟨w.heap.size,1,none⟩=some (.string ⟨#[]⟩):=hbl.cell 1
 have k2:w3.cell? ⟨w.heap.size,2,none⟩=some (.int .i64 0):=hbl.cell 2
 have k4:w3.cell? ⟨w.heap.size,4,none⟩=some (.slice (some ⟨b3,o3,none⟩) 1 c3):=hbl.cell 4
 have lk:=hbl.lt
 have q0:=((HB.out.trans (HF3.out.below hR (by omega) (by have:=HB.out.size; omega))).cell (p:=⟨b3,_,none⟩) (aa HK0.out)).trans HK0.out
 simp only [Nat.add_zero] at q0
 have lq0:=aa q0
 have HBL3:=Lib.hid hbl
 clear hw hf hbl
 go_wp2_with fail
 refine (aP R B (w3.heap.size) 1 l.length c _ _ [[59]] _ (HW3.out.alloc _) (Blk.new w3 9 _) rfl (by omega) (by have:=HL.out; have:=HLEN.out; (try simp only [List.length_append,aD,List.length_cons,List.length_nil]); omega)).mono ?_
 rintro e w4 ⟨rfl,hw,hf⟩
 have HW4:=Lib.hid hw
 have HF4:=Lib.hid ((HF3.out.alloc _).trans hf)
 have hbl:=hf.blk (HBL3.out.alloc _) (by omega) (by decide)
 clear k0 k1 k2 k4 lk q0 lq0
 have k0:w4.cell? ⟨w.heap.size,0,none⟩=some (.int .u8 13):=hbl.cell 0
 have k1:w4.cell? ⟨w.heap.size,1,none⟩=some (.string ⟨#[]⟩):=hbl.cell 1
 have k2:w4.cell? ⟨w.heap.size,2,none⟩=some (.int .i64 0):=hbl.cell 2
 have k4:w4.cell? ⟨w.heap.size,4,none⟩=some (.slice (some ⟨b3,o3,none⟩) 1 c3):=hbl.cell 4
 have lk:=hbl.lt
 have q0:=((HB.out.trans (HF4.out.below hR (by omega) (by have:=HB.out.size; omega))).cell (p:=⟨b3,_,none⟩) (aa HK0.out)).trans HK0.out
 simp only [Nat.add_zero] at q0
 have lq0:=aa q0
 have HBL4:=Lib.hid hbl
 clear hw hf hbl
 go_wp2_with fail
 go_end0
 refine⟨rfl,?_,HF4.out⟩
 rw [HTX.out]
 simpa only [List.append_assoc] using HW4.out
theorem DD {w0:World} {A:Option Addr} {l:List PV} (h:dY w0 A l) (c:Nat) (t:List UInt8) (a:Nat):SC w0 A c l (.mk 14 t 0 a []) (outS (.mk 14 t 0 a [])):=by
 intro i R B w L ha hb hR hw hL
 have hak:=ha.2
 obtain ⟨⟨a',hg⟩,_⟩:=ha
 obtain ⟨hil,b,o,A3,c3,rfl,x0,x1,x2,x3,x4,hc3,hks⟩:=bR h.nod hb hg
 simp only [offs,List.map_nil,List.length_nil] at x0 x1 x2 x3 x4 hc3
 have lb:=aa x0
 have hRw:R<w.heap.size:=Nat.lt_of_lt_of_le hw.lt hw.top
 have hRB:=hw.lt
 have htop:=hw.top
 have hi0:(0:Int)≤(i:Int):=by omega
 have hi1:(i:Int)<(l.length:Int):=by omega
 have r0:=hw.cell
 have htx:txt (outS (.mk 14 t 0 a []))=[[114,101,97,100],t] ++ [[59]]:=by simp [outS,txt,nm,mk4,wd]
 have hlen:=congrArg List.length htx
 simp only [List.length_append,aD,List.length_cons,List.length_nil] at hlen
 have HTX:=Lib.hid htx; have HLEN:=Lib.hid hlen
 have HW:=Lib.hid hw; have HL:=Lib.hid hL; have HB:=Lib.hid hb
 have HW1:=Lib.hid (hw.alloc (.cells #[.int .u8 14,.string ⟨t.toArray⟩,.int .i64 0,.int .i64 a',.slice A3 0 c3] 43))
 have HF1:=Lib.hid ((FrW.refl B R w).alloc (.cells #[.int .u8 14,.string ⟨t.toArray⟩,.int .i64 0,.int .i64 a',.slice A3 0 c3] 43))
 have HBL1:Hid (Blk (w.alloc (.cells #[.int .u8 14,.string ⟨t.toArray⟩,.int .i64 0,.int .i64 a',.slice A3 0 c3] 43)) w.heap.size 43 _):=Lib.hid (Blk.new w 43 _)
 clear hw hL hg hb hks hc3 hak htx hlen
 go_enter Tryz.func83,Tryz.ntmps83
 go_wp2_with fail
 refine (aP R B (w.heap.size+1) 2 l.length c _ _ [[114,101,97,100],t] _ (HW1.out.alloc _) (dF _ _ _ _ (by simp)) rfl (by omega) (by have:=HL.out; have:=HLEN.out; (try simp only [List.length_append,aD,List.length_cons,List.length_nil]); omega)).mono ?_
 rintro e w2 ⟨rfl,hw,hf⟩
 have HW2:=Lib.hid hw
 have HF2:=Lib.hid ((HF1.out.alloc _).trans hf)
 have hbl:=hf.blk (HBL1.out.alloc _) (by omega) (by decide)
 clear x0 x1 x2 x3 x4 r0
 have k0:w2.cell? ⟨w.heap.size,0,none⟩=some (.int .u8 14):=hbl.cell 0
 have k1:w2.cell? ⟨w.heap.size,1,none⟩=some (.string ⟨t.toArray⟩):=hbl.cell 1
 have k2:w2.cell? ⟨w.heap.size,2,none⟩=some (.int .i64 0):=hbl.cell 2
 have k4:w2.cell? ⟨w.heap.size,4,none⟩=some (.slice A3 0 c3):=hbl.cell 4
 have lk:=hbl.lt
 have HBL2:=Lib.hid hbl
 clear hw hf hbl
 go_wp2_with fail
 refine (aP R B (w2.heap.size) 1 l.length c _ _ [[59]] _ (HW2.out.alloc _) (Blk.new w2 9 _) rfl (by omega) (by have:=HL.out; have:=HLEN.out; (try simp only [List.length_append,List.length_cons,List.length_nil]); omega)).mono ?_
 rintro e w3 ⟨rfl,hw,hf⟩
 have HW3:=Lib.hid hw
 have HF3:=Lib.hid ((HF2.out.alloc _).trans hf)
 have hbl:=hf.blk (HBL2.out.alloc _) (by omega) (by decide)
 clear k0 k1 k2 k4 lk
 have k0:w3.cell? ⟨w.heap.size,0,none⟩=some (.int .u8 14):=hbl.cell 0
 have k1:w3.cell? ⟨w.heap.size,1,none⟩=some (.string ⟨t.toArray⟩):=hbl.cell 1
 have k2:w3.cell? ⟨w.heap.size,2,none⟩=some (.int .i64 0):=hbl.cell 2
 have k4:w3.cell? ⟨w.heap.size,4,none⟩=some (.slice A3 0 c3):=hbl.cell 4
 have lk:=hbl.lt
 have HBL3:=Lib.hid hbl
 clear hw hf hbl
 go_wp2_with fail
 go_end0
 refine⟨rfl,?_,HF3.out⟩
 rw [HTX.out]
 simpa only [List.append_assoc] using HW3.out
theorem Ar {w0:World} {A:Option Addr} {l:List PV} (h:dY w0 A l) (c:Nat) (t:List UInt8) (a:Nat) (x y:Item) (hx:WX x) (hy:WX y) (hgx:bz x) (hgy:bz y):SC w0 A c l (.mk 8 t 0 a [x,y]) (outS (.mk 8 t 0 a [x,y])):=by
 intro i R B w L ha hb hR hw hL
 have hak:=ha.2
 obtain ⟨⟨a',hg⟩,_⟩:=ha
 obtain ⟨hil,b,o,A3,c3,rfl,x0,x1,x2,x3,x4,hc3,hks⟩:=bR h.nod hb hg
 have hks0:=hks
 simp only [offs,List.map_cons,List.map_nil,List.length_nil,List.length_cons] at x0 x1 x2 x3 x4 hc3 hks
 rcases hks with hks | ⟨b3,o3,rfl,hks⟩
 ·cases hks
 have lb:=aa x0
 have hRw:R<w.heap.size:=Nat.lt_of_lt_of_le hw.lt hw.top
 have hRB:=hw.lt
 have htop:=hw.top
 have hi0:(0:Int)≤(i:Int):=by omega
 have hi1:(i:Int)<(l.length:Int):=by omega
 have r0:=hw.cell
 have hk0:=hks 0 _ rfl
 have HK0:=Lib.hid hk0
 clear hk0
 have hk1:=hks 1 _ rfl
 have HK1:=Lib.hid hk1
 clear hk1
 have HE0:=Lib.hid (fun w2 L2 hb2 hw2 hL2=>jF h c hx hgx (i+1) 1 R B w2 L2 hak.1 hb2 hR hw2 hL2 (by omega))
 have HE1:=Lib.hid (fun w2 L2 hb2 hw2 hL2=>jF h c hy hgy (i+1+sizeI x) 1 R B w2 L2 hak.2.1 hb2 hR hw2 hL2 (by omega))
 have htx:txt (outS (.mk 8 t 0 a [x,y]))=[t,[91]] ++ txt (outX 1 x) ++ [[93],[61]] ++ txt (outX 1 y) ++ [[59]]:=by simp [outS,txt,nm,mk4]
 have hlen:=congrArg List.length htx
 simp only [List.length_append,aD,List.length_cons,List.length_nil] at hlen
 have HTX:=Lib.hid htx; have HLEN:=Lib.hid hlen
 have HW:=Lib.hid hw; have HL:=Lib.hid hL; have HB:=Lib.hid hb
 have HW1:=Lib.hid (hw.alloc (.cells #[.int .u8 8,.string ⟨t.toArray⟩,.int .i64 0,.int .i64 a',.slice (some ⟨b3,o3,none⟩) 2 c3] 43))
 have HF1:=Lib.hid ((FrW.refl B R w).alloc (.cells #[.int .u8 8,.string ⟨t.toArray⟩,.int .i64 0,.int .i64 a',.slice (some ⟨b3,o3,none⟩) 2 c3] 43))
 have HBL1:Hid (Blk (w.alloc (.cells #[.int .u8 8,.string ⟨t.toArray⟩,.int .i64 0,.int .i64 a',.slice (some ⟨b3,o3,none⟩) 2 c3] 43)) w.heap.size 43 _):=Lib.hid (Blk.new w 43 _)
 clear hw hL hg hb hks hc3 hak htx hlen hks0
 go_enter Tryz.func83,Tryz.ntmps83
 go_wp2_with fail
 refine (aP R B (w.heap.size+1) 2 l.length c _ _ [t,[91]] _ (HW1.out.alloc _) (dF _ _ _ _ (by simp)) rfl (by omega) (by have:=HL.out; have:=HLEN.out; (try simp only [List.length_append,aD,List.length_cons,List.length_nil]); omega)).mono ?_
 rintro e w2 ⟨rfl,hw,hf⟩
 have HW2:=Lib.hid hw
 have HF2:=Lib.hid ((HF1.out.alloc _).trans hf)
 have hbl:=hf.blk (HBL1.out.alloc _) (by omega) (by decide)
 clear x0 x1 x2 x3 x4 r0
 have k0:w2.cell? ⟨w.heap.size,0,none⟩=some (.int .u8 8):=hbl.cell 0
 have k1:w2.cell? ⟨w.heap.size,1,none⟩=some (.string ⟨t.toArray⟩):=hbl.cell 1
 have k2:w2.cell? ⟨w.heap.size,2,none⟩=some (.int .i64 0):=hbl.cell 2
 have k4:w2.cell? ⟨w.heap.size,4,none⟩=some (.slice (some ⟨b3,o3,none⟩) 2 c3):=hbl.cell 4
 have lk:=hbl.lt
 have q0:=((HB.out.trans (HF2.out.below hR (by omega) (by have:=HB.out.size; omega))).cell (p:=⟨b3,_,none⟩) (aa HK0.out)).trans HK0.out
 simp only [Nat.add_zero] at q0
 have lq0:=aa q0
 have q1:=((HB.out.trans (HF2.out.below hR (by omega) (by have:=HB.out.size; omega))).cell (p:=⟨b3,_,none⟩) (aa HK1.out)).trans HK1.out
 have lq1:=aa q1
 have HBL2:=Lib.hid hbl
 clear hw hf hbl
 go_wp2_with fail
 refine (HE0.out w2 _ (HB.out.trans (HF2.out.below hR (by omega) (by have:=HB.out.size; omega))) HW2.out (by have:=HL.out; have:=HLEN.out; (try simp only [List.length_append,List.length_cons,List.length_nil]); omega)).mono ?_
 rintro e w3 ⟨rfl,hw,hf⟩
 have HW3:=Lib.hid hw
 have HF3:=Lib.hid (HF2.out.trans hf)
 have hbl:=hf.blk HBL2.out (by omega) (by decide)
 clear k0 k1 k2 k4 lk q0 lq0 q1 lq1
 have k0:w3.cell? ⟨w.heap.size,0,none⟩=some (.int .u8 8):=hbl.cell 0
 have k1:w3.cell? ⟨w.heap.size,1,none⟩=some (.string ⟨t.toArray⟩):=hbl.cell 1
 have k2:w3.cell? ⟨w.heap.size,2,none⟩=some (.int .i64 0):=hbl.cell 2
 have k4:w3.cell? ⟨w.heap.size,4,none⟩=some (.slice (some ⟨b3,o3,none⟩) 2 c3):=hbl.cell 4
 have lk:=hbl.lt
 have q0:=((HB.out.trans (HF3.out.below hR (by omega) (by have:=HB.out.size; omega))).cell (p:=⟨b3,_,none⟩) (aa HK0.out)).trans HK0.out
 simp only [Nat.add_zero] at q0
 have lq0:=aa q0
 have q1:=((HB.out.trans (HF3.out.below hR (by omega) (by have:=HB.out.size; omega))).cell (p:=⟨b3,_,none⟩) (aa HK1.out)).trans HK1.out
 have lq1:=aa q1
 have HBL3:=Lib.hid hbl
 clear hw hf hbl
 go_wp2_with fail
 refine (aP R B (w3.heap.size) 2 l.length c _ _ [[93],[61]] _ (HW3.out.alloc _) (Blk.new w3 9 _) rfl (by omega) (by have:=HL.out; have:=HLEN.out; (try simp only [List.length_append,aD,List.length_cons,List.length_nil]); omega)).mono ?_
 rintro e w4 ⟨rfl,hw,hf⟩
 have HW4:=Lib.hid hw
 have HF4:=Lib.hid ((HF3.out.alloc _).trans hf)
 have hbl:=hf.blk (HBL3.out.alloc _) (by omega) (by decide)
 clear k0 k1 k2 k4 lk q0 lq0 q1 lq1
 have k0:w4.cell? ⟨w.heap.size,0,none⟩=some (.int .u8 8):=hbl.cell 0
 have k1:w4.cell? ⟨w.heap.size,1,none⟩=some (.string ⟨t.toArray⟩):=hbl.cell 1
 have k2:w4.cell? ⟨w.heap.size,2,none⟩=some (.int .i64 0):=hbl.cell 2
 have k4:w4.cell? ⟨w.heap.size,4,none⟩=some (.slice (some ⟨b3,o3,none⟩) 2 c3):=hbl.cell 4
 have lk:=hbl.lt
 have q0:=((HB.out.trans (HF4.out.below hR (by omega) (by have:=HB.out.size; omega))).cell (p:=⟨b3,_,none⟩) (aa HK0.out)).trans HK0.out
 simp only [Nat.add_zero] at q0
 have lq0:=aa q0
 have q1:=((HB.out.trans (HF4.out.below hR (by omega) (by have:=HB.out.size; omega))).cell (p:=⟨b3,_,none⟩) (aa HK1.out)).trans HK1.out
 have lq1:=aa q1
 have HBL4:=Lib.hid hbl
 clear hw hf hbl
 go_wp2_with fail
 refine (HE1.out w4 _ (HB.out.trans (HF4.out.below hR (by omega) (by have:=HB.out.size; omega))) HW4.out (by have:=HL.out; have:=HLEN.out; (try simp only [List.length_append,aD,List.length_cons,List.length_nil]); omega)).mono ?_
 rintro e w5 ⟨rfl,hw,hf⟩
 have HW5:=Lib.hid hw
 have HF5:=Lib.hid (HF4.out.trans hf)
 have hbl:=hf.blk HBL4.out (by omega) (by decide)
 clear k0 k1 k2 k4 lk q0 lq0 q1 lq1
 have k0:w5.cell? ⟨w.heap.size,0,none⟩=some (.int .u8 8):=hbl.cell 0
 have k1:w5.cell? ⟨w.heap.size,1,none⟩=some (.string ⟨t.toArray⟩):=hbl.cell 1
 have k2:w5.cell? ⟨w.heap.size,2,none⟩=some (.int .i64 0):=hbl.cell 2
 have k4:w5.cell? ⟨w.heap.size,4,none⟩=some (.slice (some ⟨b3,o3,none⟩) 2 c3):=hbl.cell 4
 have lk:=hbl.lt
 have q0:=((HB.out.trans (HF5.out.below hR (by omega) (by have:=HB.out.size; omega))).cell (p:=⟨b3,_,none⟩) (aa HK0.out)).trans HK0.out
 simp only [Nat.add_zero] at q0
 have lq0:=aa q0
 have q1:=((HB.out.trans (HF5.out.below hR (by omega) (by have:=HB.out.size; omega))).cell (p:=⟨b3,_,none⟩) (aa HK1.out)).trans HK1.out
 have lq1:=aa q1
 have HBL5:=Lib.hid hbl
 clear hw hf hbl
 go_wp2_with fail
 refine (aP R B (w5.heap.size) 1 l.length c _ _ [[59]] _ (HW5.out.alloc _) (Blk.new w5 9 _) rfl (by omega) (by have:=HL.out; have:=HLEN.out; (try simp only [List.length_append,aD,List.length_cons,List.length_nil]); omega)).mono ?_
 rintro e w6 ⟨rfl,hw,hf⟩
 have HW6:=Lib.hid hw
 have HF6:=Lib.hid ((HF5.out.alloc _).trans hf)
 have hbl:=hf.blk (HBL5.out.alloc _) (by omega) (by decide)
 clear k0 k1 k2 k4 lk q0 lq0 q1 lq1
 have k0:w6.cell? ⟨w.heap.size,0,none⟩=some (.int .u8 8):=hbl.cell 0
 have k1:w6.cell? ⟨w.heap.size,1,none⟩=some (.string ⟨t.toArray⟩):=hbl.cell 1
 have k2:w6.cell? ⟨w.heap.size,2,none⟩=some (.int .i64 0):=hbl.cell 2
 have k4:w6.cell? ⟨w.heap.size,4,none⟩=some (.slice (some ⟨b3,o3,none⟩) 2 c3):=hbl.cell 4
 have lk:=hbl.lt
 have q0:=((HB.out.trans (HF6.out.below hR (by omega) (by have:=HB.out.size; omega))).cell (p:=⟨b3,_,none⟩) (aa HK0.out)).trans HK0.out
 simp only [Nat.add_zero] at q0
 have lq0:=aa q0
 have q1:=((HB.out.trans (HF6.out.below hR (by omega) (by have:=HB.out.size; omega))).cell (p:=⟨b3,_,none⟩) (aa HK1.out)).trans HK1.out
 have lq1:=aa q1
 have HBL6:=Lib.hid hbl
 clear hw hf hbl
 go_wp2_with fail
 go_end0
 refine⟨rfl,?_,HF6.out⟩
 rw [HTX.out]
 simpa only [List.append_assoc] using HW6.out
end Go.Proofs.YtkkeocnnecegbaaGreatDoor
namespace Go.Proofs.YtkkeocnnecegbaaGreatDoor
open Go.RowKit
theorem pF (x y:List Item):dI (x ++ y)=dI x ++ dI y:=by
 induction x with
 | nil=>rfl
 | cons z r ih=>simp [dI,ih]
theorem AO (ks:List Item) (j:Nat) (h:j<ks.length):dI (ks.take (j+1))=dI (ks.take j) ++ outS ks[j]:=by
 rw [take_one ks j h,pF]; simp [dI]
theorem Cc (ks:List Item) (j:Nat):(dI (ks.take j)).length≤(dI ks).length:=by
 have:=congrArg (fun l=>(dI l).length) (List.take_append_drop j ks)
 simp only [pF,List.length_append] at this
 omega
theorem Cv {w0:World} {A:Option Addr} {l:List PV} (h:dY w0 A l) (c:Nat) (a:Nat) (ks:List Item) (hks':ks.length≤1000000) (hk:∀ y∈ks,SC w0 A c l y (outS y)):SC w0 A c l (.mk 5 [] 0 a ks) (outS (.mk 5 [] 0 a ks)):=by
 intro i R B w L ha hb hR hw hL
 have hak:=ha.2
 obtain ⟨⟨a',hg⟩,_⟩:=ha
 obtain ⟨hil,b,o,A3,c3,rfl,x0,x1,x2,x3,x4,hc3,hks⟩:=bR h.nod hb hg
 simp only [List.length_map,aL] at x0 x1 x2 x3 x4 hc3 hks
 have lb:=aa x0
 have hRw:R<w.heap.size:=Nat.lt_of_lt_of_le hw.lt hw.top
 have hRB:=hw.lt
 have htop:=hw.top
 have hi0:(0:Int)≤(i:Int):=by omega
 have hi1:(i:Int)<(l.length:Int):=by omega
 have r0:=hw.cell
 have htx:txt (outS (.mk 5 [] 0 a ks))=[[123]] ++ txt (dI ks) ++ [[125]]:=by simp [outS,txt,mk4]
 have hlen:=congrArg List.length htx
 simp only [List.length_append,aD,List.length_cons,List.length_nil] at hlen
 have HTX:=Lib.hid htx; have HLEN:=Lib.hid hlen
 have HW:=Lib.hid hw; have HL:=Lib.hid hL; have HB:=Lib.hid hb
 have HKS:=Lib.hid hks; have HAK:=Lib.hid hak; have HK:=Lib.hid hk
 have HW1:=Lib.hid (hw.alloc (.cells #[.int .u8 5,.string ⟨#[]⟩,.int .i64 0,.int .i64 a',.slice A3 ks.length c3] 43))
 have HF1:=Lib.hid ((FrW.refl B R w).alloc (.cells #[.int .u8 5,.string ⟨#[]⟩,.int .i64 0,.int .i64 a',.slice A3 ks.length c3] 43))
 have HBL1:Hid (Blk (w.alloc (.cells #[.int .u8 5,.string ⟨#[]⟩,.int .i64 0,.int .i64 a',.slice A3 ks.length c3] 43)) w.heap.size 43 _):=Lib.hid (Blk.new w 43 _)
 clear hw hL hg hb hks hc3 hak htx hlen hk
 go_enter Tryz.func83,Tryz.ntmps83
 go_wp2_with fail
 refine (aP R B (w.heap.size+1) 1 l.length c _ _ [[123]] _ (HW1.out.alloc _) (dF _ _ _ _ (by simp)) rfl (by omega) (by have:=HL.out; have:=HLEN.out; omega)).mono ?_
 rintro e w2 ⟨rfl,hw,hf⟩
 have HW2:=Lib.hid hw
 have HF2:=Lib.hid ((HF1.out.alloc _).trans hf)
 have hbl:=hf.blk (HBL1.out.alloc _) (by omega) (by decide)
 have k4:w2.cell? ⟨w.heap.size,4,none⟩=some (.slice A3 ks.length c3):=hbl.cell 4
 have lk:=hbl.lt
 clear hw hf hbl x0 x1 x2 x3 x4 r0 HW1 HF1 HBL1
 go_wp2_with fail
 go_loopg [103] ks.length (fun gk v wr=>∃ j:Nat,j≤ks.length∧ks.length - j≤gk∧v=.int .i64 j∧Hid (WrS wr R B (some ⟨b,o,none⟩) l.length c (L ++ [[123]] ++ txt (dI (ks.take j))))∧Hid (FrW B R w wr))
 case atStart=>exact⟨0,Nat.zero_le _,Nat.le_refl _,rfl,Lib.hid (by simpa [dI,txt] using HW2.out),HF2⟩
 case round =>
  obtain ⟨j,hj,hgk,rfl,HWR,HFR⟩:=hrel
  by_cases hlt:j<ks.length
  case neg =>
   have hie:j=ks.length:=by omega
   subst hie
   have hful:ks.take ks.length=ks:=List.take_length
   have HWR':Hid (WrS wr R B (some ⟨b,o,none⟩) l.length c (L ++ [[123]] ++ txt (dI ks))):=Lib.hid (by have:=HWR.out; rw [hful] at this; exact this)
   clear hful HWR
   go_wp2_with fail
   refine (aP R B wr.heap.size 1 l.length c _ _ [[125]] _ (HWR'.out.alloc _) (Blk.new wr 9 _) rfl (by omega) (by have:=HL.out; have:=HLEN.out; simp only [List.length_append,aD,List.length_cons,List.length_nil]; omega)).mono ?_
   rintro e w3 ⟨rfl,hw,hf⟩
   have HW3:=Lib.hid hw
   have HF3:=Lib.hid ((HFR.out.alloc _).trans hf)
   clear hw hf
   go_wp2_with fail
   go_end0
   refine⟨rfl,?_,HF3.out⟩
   rw [HTX.out]
   simpa only [List.append_assoc] using HW3.out
  case pos =>
   have hBW:Below w0.heap.size w0 wr:=HB.out.trans (HFR.out.below hR (by omega) (by have:=HB.out.size; omega))
   rcases HKS.out with h2 | ⟨b3,o3,rfl,h3⟩
   ·exfalso
    have:=congrArg List.length h2
    rw [List.length_map,aL,List.length_nil] at this
    omega
   have k3':=h3 j ((i+1+sizeL (ks.take j):Nat):Int) (by rw [List.getElem?_map,jv ks (i+1) j hlt]; rfl)
   have k3:wr.cell? ⟨b3,o3+j,none⟩=some (.int .i64 ((i+1+sizeL (ks.take j):Nat):Int)):=by
    rw [← k3']
    exact hBW.cell (p:=⟨b3,_,none⟩) (aa k3')
   have HBW:=Lib.hid hBW
   have hXC:=HK.out ks[j] (List.getElem_mem hlt)
   have hat:=jQ HAK.out j hlt
   have hsn:=AO ks j hlt
   have hmono:=Cc ks (j+1)
   rw [hsn,List.length_append] at hmono
   have HMO:=Lib.hid hmono
   have HXC:=Lib.hid hXC; have HAT:=Lib.hid hat; have HSN:=Lib.hid hsn
   have lb3:=aa k3
   clear k3' h3 hBW hXC hat hsn hmono
   generalize hidx:i+1+sizeL (ks.take j)=idx at *
   generalize ks[j]=y at *
   clear hidx
   go_wp2_with fail
   refine (HXC.out idx R B wr _ HAT.out HBW.out hR HWR.out (by have h1:=HMO.out; have h2:=HL.out; have h3:=HLEN.out; simp only [List.length_append,aD,List.length_cons,List.length_nil]; omega)).mono ?_
   rintro e w4 ⟨rfl,hw4,hf4⟩
   have HW4:=Lib.hid hw4
   have HF4:=Lib.hid (HFR.out.trans hf4)
   clear hw4 hf4
   go_wp2_with fail
   cases gk with
   | zero=>omega
   | succ gk =>
    go_roundg gk
    case measure=>omega
    case rel =>
     refine⟨j+1,by omega,by omega,by simp,Lib.hid ?_,HF4⟩
     have:=HW4.out
     rw [HSN.out,tN,← List.append_assoc]
     exact this
end Go.Proofs.YtkkeocnnecegbaaGreatDoor
namespace Go.Proofs.YtkkeocnnecegbaaGreatDoor
open Go.RowKit
theorem Fv {w0:World} {A:Option Addr} {l:List PV} (h:dY w0 A l) (c:Nat) (a:Nat) (x y:Item) (hx:WX x) (hgx:bz x) (hs:SC w0 A c l y (outS y)):SC w0 A c l (.mk 9 [] 0 a [x,y]) (outS (.mk 9 [] 0 a [x,y])):=by
 intro i R B w L ha hb hR hw hL
 have hak:=ha.2
 obtain ⟨⟨a',hg⟩,_⟩:=ha
 obtain ⟨hil,b,o,A3,c3,rfl,x0,x1,x2,x3,x4,hc3,hks⟩:=bR h.nod hb hg
 have hks0:=hks
 simp only [offs,List.map_cons,List.map_nil,List.length_nil,List.length_cons] at x0 x1 x2 x3 x4 hc3 hks
 rcases hks with hks | ⟨b3,o3,rfl,hks⟩
 ·cases hks
 have lb:=aa x0
 have hRw:R<w.heap.size:=Nat.lt_of_lt_of_le hw.lt hw.top
 have hRB:=hw.lt
 have htop:=hw.top
 have hi0:(0:Int)≤(i:Int):=by omega
 have hi1:(i:Int)<(l.length:Int):=by omega
 have r0:=hw.cell
 have hk0:=hks 0 _ rfl
 have HK0:=Lib.hid hk0
 clear hk0
 have hk1:=hks 1 _ rfl
 have HK1:=Lib.hid hk1
 clear hk1
 have HE0:=Lib.hid (fun w2 L2 hb2 hw2 hL2=>jF h c hx hgx (i+1) 1 R B w2 L2 hak.1 hb2 hR hw2 hL2 (by omega))
 have HS1:=Lib.hid (fun w2 L2 hb2 hw2 hL2=>hs (i+1+sizeI x) R B w2 L2 hak.2.1 hb2 hR hw2 hL2)
 have htx:txt (outS (.mk 9 [] 0 a [x,y]))=[[105,102]] ++ txt (outX 1 x) ++ txt (outS y):=by simp [outS,txt,wd]
 have hlen:=congrArg List.length htx
 simp only [List.length_append,aD,List.length_cons,List.length_nil] at hlen
 have HTX:=Lib.hid htx; have HLEN:=Lib.hid hlen
 have HW:=Lib.hid hw; have HL:=Lib.hid hL; have HB:=Lib.hid hb
 have HW1:=Lib.hid (hw.alloc (.cells #[.int .u8 9,.string ⟨#[]⟩,.int .i64 0,.int .i64 a',.slice (some ⟨b3,o3,none⟩) 2 c3] 43))
 have HF1:=Lib.hid ((FrW.refl B R w).alloc (.cells #[.int .u8 9,.string ⟨#[]⟩,.int .i64 0,.int .i64 a',.slice (some ⟨b3,o3,none⟩) 2 c3] 43))
 have HBL1:Hid (Blk (w.alloc (.cells #[.int .u8 9,.string ⟨#[]⟩,.int .i64 0,.int .i64 a',.slice (some ⟨b3,o3,none⟩) 2 c3] 43)) w.heap.size 43 _):=Lib.hid (Blk.new w 43 _)
 clear hw hL hg hb hks hak htx hlen hks0
 go_enter Tryz.func83,Tryz.ntmps83
 go_wp2_with fail
 refine (aP R B (w.heap.size+1+1) 1 l.length c _ _ [[105,102]] _ ((HW1.out.alloc (.cells #[.string ⟨#[105,102]⟩,.string ⟨#[102,111,114]⟩] 9)).alloc _) (dF _ _ _ _ (by simp)) rfl (by omega) (by have:=HL.out; have:=HLEN.out; (try simp only [List.length_append,aD,List.length_cons,List.length_nil]); omega)).mono ?_
 rintro e w2 ⟨rfl,hw,hf⟩
 have HW2:=Lib.hid hw
 have HF2:=Lib.hid (((HF1.out.alloc (.cells #[.string ⟨#[105,102]⟩,.string ⟨#[102,111,114]⟩] 9)).alloc _).trans hf)
 have hbl:=hf.blk ((HBL1.out.alloc (.cells #[.string ⟨#[105,102]⟩,.string ⟨#[102,111,114]⟩] 9)).alloc _) (by omega) (by decide)
 clear x0 x1 x2 x3 x4 r0
 have k0:w2.cell? ⟨w.heap.size,0,none⟩=some (.int .u8 9):=hbl.cell 0
 have k1:w2.cell? ⟨w.heap.size,1,none⟩=some (.string ⟨#[]⟩):=hbl.cell 1
 have k2:w2.cell? ⟨w.heap.size,2,none⟩=some (.int .i64 0):=hbl.cell 2
 have k4:w2.cell? ⟨w.heap.size,4,none⟩=some (.slice (some ⟨b3,o3,none⟩) 2 c3):=hbl.cell 4
 have lk:=hbl.lt
 have q0:=((HB.out.trans (HF2.out.below hR (by omega) (by have:=HB.out.size; omega))).cell (p:=⟨b3,_,none⟩) (aa HK0.out)).trans HK0.out
 simp only [Nat.add_zero] at q0
 have lq0:=aa q0
 have q1:=((HB.out.trans (HF2.out.below hR (by omega) (by have:=HB.out.size; omega))).cell (p:=⟨b3,_,none⟩) (aa HK1.out)).trans HK1.out
 have lq1:=aa q1
 have HBL2:=Lib.hid hbl
 clear hw hf hbl
 go_wp2_with fail
 refine (HE0.out w2 _ (HB.out.trans (HF2.out.below hR (by omega) (by have:=HB.out.size; omega))) HW2.out (by have:=HL.out; have:=HLEN.out; (try simp only [List.length_append,List.length_cons,List.length_nil]); omega)).mono ?_
 rintro e w3 ⟨rfl,hw,hf⟩
 have HW3:=Lib.hid hw
 have HF3:=Lib.hid (HF2.out.trans hf)
 have hbl:=hf.blk HBL2.out (by omega) (by decide)
 clear k0 k1 k2 k4 lk q0 lq0 q1 lq1
 have k0:w3.cell? ⟨w.heap.size,0,none⟩=some (.int .u8 9):=hbl.cell 0
 have k1:w3.cell? ⟨w.heap.size,1,none⟩=some (.string ⟨#[]⟩):=hbl.cell 1
 have k2:w3.cell? ⟨w.heap.size,2,none⟩=some (.int .i64 0):=hbl.cell 2
 have k4:w3.cell? ⟨w.heap.size,4,none⟩=some (.slice (some ⟨b3,o3,none⟩) 2 c3):=hbl.cell 4
 have lk:=hbl.lt
 have q0:=((HB.out.trans (HF3.out.below hR (by omega) (by have:=HB.out.size; omega))).cell (p:=⟨b3,_,none⟩) (aa HK0.out)).trans HK0.out
 simp only [Nat.add_zero] at q0
 have lq0:=aa q0
 have q1:=((HB.out.trans (HF3.out.below hR (by omega) (by have:=HB.out.size; omega))).cell (p:=⟨b3,_,none⟩) (aa HK1.out)).trans HK1.out
 have lq1:=aa q1
 have HBL3:=Lib.hid hbl
 clear hw hf hbl
 go_wp2_with fail
 refine (HS1.out w3 _ (HB.out.trans (HF3.out.below hR (by omega) (by have:=HB.out.size; omega))) HW3.out (by have:=HL.out; have:=HLEN.out; (try simp only [List.length_append,aD,List.length_cons,List.length_nil]); omega)).mono ?_
 rintro e w4 ⟨rfl,hw,hf⟩
 have HW4:=Lib.hid hw
 have HF4:=Lib.hid (HF3.out.trans hf)
 have hbl:=hf.blk HBL3.out (by omega) (by decide)
 clear k0 k1 k2 k4 lk q0 lq0 q1 lq1
 have k0:w4.cell? ⟨w.heap.size,0,none⟩=some (.int .u8 9):=hbl.cell 0
 have k1:w4.cell? ⟨w.heap.size,1,none⟩=some (.string ⟨#[]⟩):=hbl.cell 1
 have k2:w4.cell? ⟨w.heap.size,2,none⟩=some (.int .i64 0):=hbl.cell 2
 have k4:w4.cell? ⟨w.heap.size,4,none⟩=some (.slice (some ⟨b3,o3,none⟩) 2 c3):=hbl.cell 4
 have lk:=hbl.lt
 have q0:=((HB.out.trans (HF4.out.below hR (by omega) (by have:=HB.out.size; omega))).cell (p:=⟨b3,_,none⟩) (aa HK0.out)).trans HK0.out
 simp only [Nat.add_zero] at q0
 have lq0:=aa q0
 have q1:=((HB.out.trans (HF4.out.below hR (by omega) (by have:=HB.out.size; omega))).cell (p:=⟨b3,_,none⟩) (aa HK1.out)).trans HK1.out
 have lq1:=aa q1
 have HBL4:=Lib.hid hbl
 clear hw hf hbl
 have LW4:Hid (WrS w4 R B (some ⟨b,o,none⟩) l.length c (L ++ txt (outS (.mk 9 [] 0 a [x,y])))):=Lib.hid (by rw [HTX.out]; simpa only [List.append_assoc] using HW4.out)
 by_cases hc2:c3=2
 case pos =>
  subst hc2
  go_wp2_with fail
  go_loopg [171] 0 (fun gk v wr=>v=.int .i64 0∧Hid (WrS wr R B (some ⟨b,o,none⟩) l.length c (L ++ txt (outS (.mk 9 [] 0 a [x,y]))))∧Hid (FrW B R w wr))
  case atStart=>exact⟨rfl,LW4,HF4⟩
  case round =>
   obtain ⟨rfl,HWR,HFR⟩:=hrel
   go_wp2_with fail
   go_end0
   exact⟨rfl,HWR.out,HFR.out⟩
 case neg =>
  go_wp2_with fail
  go_loopg [171] 0 (fun gk v wr=>v=.int .i64 0∧Hid (WrS wr R B (some ⟨b,o,none⟩) l.length c (L ++ txt (outS (.mk 9 [] 0 a [x,y]))))∧Hid (FrW B R w wr))
  case atStart=>exact⟨rfl,LW4,HF4⟩
  case round =>
   obtain ⟨rfl,HWR,HFR⟩:=hrel
   go_wp2_with fail
   go_end0
   exact⟨rfl,HWR.out,HFR.out⟩
theorem EY {w0:World} {A:Option Addr} {l:List PV} (h:dY w0 A l) (c:Nat) (a:Nat) (x y:Item) (hx:WX x) (hgx:bz x) (hs:SC w0 A c l y (outS y)):SC w0 A c l (.mk 10 [] 0 a [x,y]) (outS (.mk 10 [] 0 a [x,y])):=by
 intro i R B w L ha hb hR hw hL
 have hak:=ha.2
 obtain ⟨⟨a',hg⟩,_⟩:=ha
 obtain ⟨hil,b,o,A3,c3,rfl,x0,x1,x2,x3,x4,hc3,hks⟩:=bR h.nod hb hg
 have hks0:=hks
 simp only [offs,List.map_cons,List.map_nil,List.length_nil,List.length_cons] at x0 x1 x2 x3 x4 hc3 hks
 rcases hks with hks | ⟨b3,o3,rfl,hks⟩
 ·cases hks
 have lb:=aa x0
 have hRw:R<w.heap.size:=Nat.lt_of_lt_of_le hw.lt hw.top
 have hRB:=hw.lt
 have htop:=hw.top
 have hi0:(0:Int)≤(i:Int):=by omega
 have hi1:(i:Int)<(l.length:Int):=by omega
 have r0:=hw.cell
 have hk0:=hks 0 _ rfl
 have HK0:=Lib.hid hk0
 clear hk0
 have hk1:=hks 1 _ rfl
 have HK1:=Lib.hid hk1
 clear hk1
 have HE0:=Lib.hid (fun w2 L2 hb2 hw2 hL2=>jF h c hx hgx (i+1) 1 R B w2 L2 hak.1 hb2 hR hw2 hL2 (by omega))
 have HS1:=Lib.hid (fun w2 L2 hb2 hw2 hL2=>hs (i+1+sizeI x) R B w2 L2 hak.2.1 hb2 hR hw2 hL2)
 have htx:txt (outS (.mk 10 [] 0 a [x,y]))=[[102,111,114]] ++ txt (outX 1 x) ++ txt (outS y):=by simp [outS,txt,wd]
 have hlen:=congrArg List.length htx
 simp only [List.length_append,aD,List.length_cons,List.length_nil] at hlen
 have HTX:=Lib.hid htx; have HLEN:=Lib.hid hlen
 have HW:=Lib.hid hw; have HL:=Lib.hid hL; have HB:=Lib.hid hb
 have HW1:=Lib.hid (hw.alloc (.cells #[.int .u8 10,.string ⟨#[]⟩,.int .i64 0,.int .i64 a',.slice (some ⟨b3,o3,none⟩) 2 c3] 43))
 have HF1:=Lib.hid ((FrW.refl B R w).alloc (.cells #[.int .u8 10,.string ⟨#[]⟩,.int .i64 0,.int .i64 a',.slice (some ⟨b3,o3,none⟩) 2 c3] 43))
 have HBL1:Hid (Blk (w.alloc (.cells #[.int .u8 10,.string ⟨#[]⟩,.int .i64 0,.int .i64 a',.slice (some ⟨b3,o3,none⟩) 2 c3] 43)) w.heap.size 43 _):=Lib.hid (Blk.new w 43 _)
 clear hw hL hg hb hks hak htx hlen hks0
 go_enter Tryz.func83,Tryz.ntmps83
 go_wp2_with fail
 refine (aP R B (w.heap.size+1+1) 1 l.length c _ _ [[102,111,114]] _ ((HW1.out.alloc (.cells #[.string ⟨#[105,102]⟩,.string ⟨#[102,111,114]⟩] 9)).alloc _) (dF _ _ _ _ (by simp)) rfl (by omega) (by have:=HL.out; have:=HLEN.out; (try simp only [List.length_append,aD,List.length_cons,List.length_nil]); omega)).mono ?_
 rintro e w2 ⟨rfl,hw,hf⟩
 have HW2:=Lib.hid hw
 have HF2:=Lib.hid (((HF1.out.alloc (.cells #[.string ⟨#[105,102]⟩,.string ⟨#[102,111,114]⟩] 9)).alloc _).trans hf)
 have hbl:=hf.blk ((HBL1.out.alloc (.cells #[.string ⟨#[105,102]⟩,.string ⟨#[102,111,114]⟩] 9)).alloc _) (by omega) (by decide)
 clear x0 x1 x2 x3 x4 r0
 have k0:w2.cell? ⟨w.heap.size,0,none⟩=some (.int .u8 10):=hbl.cell 0
 have k1:w2.cell? ⟨w.heap.size,1,none⟩=some (.string ⟨#[]⟩):=hbl.cell 1
 have k2:w2.cell? ⟨w.heap.size,2,none⟩=some (.int .i64 0):=hbl.cell 2
 have k4:w2.cell? ⟨w.heap.size,4,none⟩=some (.slice (some ⟨b3,o3,none⟩) 2 c3):=hbl.cell 4
 have lk:=hbl.lt
 have q0:=((HB.out.trans (HF2.out.below hR (by omega) (by have:=HB.out.size; omega))).cell (p:=⟨b3,_,none⟩) (aa HK0.out)).trans HK0.out
 simp only [Nat.add_zero] at q0
 have lq0:=aa q0
 have q1:=((HB.out.trans (HF2.out.below hR (by omega) (by have:=HB.out.size; omega))).cell (p:=⟨b3,_,none⟩) (aa HK1.out)).trans HK1.out
 have lq1:=aa q1
 have HBL2:=Lib.hid hbl
 clear hw hf hbl
 go_wp2_with fail
 refine (HE0.out w2 _ (HB.out.trans (HF2.out.below hR (by omega) (by have:=HB.out.size; omega))) HW2.out (by have:=HL.out; have:=HLEN.out; (try simp only [List.length_append,List.length_cons,List.length_nil]); omega)).mono ?_
 rintro e w3 ⟨rfl,hw,hf⟩
 have HW3:=Lib.hid hw
 have HF3:=Lib.hid (HF2.out.trans hf)
 have hbl:=hf.blk HBL2.out (by omega) (by decide)
 clear k0 k1 k2 k4 lk q0 lq0 q1 lq1
 have k0:w3.cell? ⟨w.heap.size,0,none⟩=some (.int .u8 10):=hbl.cell 0
 have k1:w3.cell? ⟨w.heap.size,1,none⟩=some (.string ⟨#[]⟩):=hbl.cell 1
 have k2:w3.cell? ⟨w.heap.size,2,none⟩=some (.int .i64 0):=hbl.cell 2
 have k4:w3.cell? ⟨w.heap.size,4,none⟩=some (.slice (some ⟨b3,o3,none⟩) 2 c3):=hbl.cell 4
 have lk:=hbl.lt
 have q0:=((HB.out.trans (HF3.out.below hR (by omega) (by have:=HB.out.size; omega))).cell (p:=⟨b3,_,none⟩) (aa HK0.out)).trans HK0.out
 simp only [Nat.add_zero] at q0
 have lq0:=aa q0
 have q1:=((HB.out.trans (HF3.out.below hR (by omega) (by have:=HB.out.size; omega))).cell (p:=⟨b3,_,none⟩) (aa HK1.out)).trans HK1.out
 have lq1:=aa q1
 have HBL3:=Lib.hid hbl
 clear hw hf hbl
 go_wp2_with fail
 refine (HS1.out w3 _ (HB.out.trans (HF3.out.below hR (by omega) (by have:=HB.out.size; omega))) HW3.out (by have:=HL.out; have:=HLEN.out; (try simp only [List.length_append,aD,List.length_cons,List.length_nil]); omega)).mono ?_
 rintro e w4 ⟨rfl,hw,hf⟩
 have HW4:=Lib.hid hw
 have HF4:=Lib.hid (HF3.out.trans hf)
 have hbl:=hf.blk HBL3.out (by omega) (by decide)
 clear k0 k1 k2 k4 lk q0 lq0 q1 lq1
 have k0:w4.cell? ⟨w.heap.size,0,none⟩=some (.int .u8 10):=hbl.cell 0
 have k1:w4.cell? ⟨w.heap.size,1,none⟩=some (.string ⟨#[]⟩):=hbl.cell 1
 have k2:w4.cell? ⟨w.heap.size,2,none⟩=some (.int .i64 0):=hbl.cell 2
 have k4:w4.cell? ⟨w.heap.size,4,none⟩=some (.slice (some ⟨b3,o3,none⟩) 2 c3):=hbl.cell 4
 have lk:=hbl.lt
 have q0:=((HB.out.trans (HF4.out.below hR (by omega) (by have:=HB.out.size; omega))).cell (p:=⟨b3,_,none⟩) (aa HK0.out)).trans HK0.out
 simp only [Nat.add_zero] at q0
 have lq0:=aa q0
 have q1:=((HB.out.trans (HF4.out.below hR (by omega) (by have:=HB.out.size; omega))).cell (p:=⟨b3,_,none⟩) (aa HK1.out)).trans HK1.out
 have lq1:=aa q1
 have HBL4:=Lib.hid hbl
 clear hw hf hbl
 have LW4:Hid (WrS w4 R B (some ⟨b,o,none⟩) l.length c (L ++ txt (outS (.mk 10 [] 0 a [x,y])))):=Lib.hid (by rw [HTX.out]; simpa only [List.append_assoc] using HW4.out)
 by_cases hc2:c3=2
 case pos =>
  subst hc2
  go_wp2_with fail
  go_loopg [171] 0 (fun gk v wr=>v=.int .i64 0∧Hid (WrS wr R B (some ⟨b,o,none⟩) l.length c (L ++ txt (outS (.mk 10 [] 0 a [x,y]))))∧Hid (FrW B R w wr))
  case atStart=>exact⟨rfl,LW4,HF4⟩
  case round =>
   obtain ⟨rfl,HWR,HFR⟩:=hrel
   go_wp2_with fail
   go_end0
   exact⟨rfl,HWR.out,HFR.out⟩
 case neg =>
  go_wp2_with fail
  go_loopg [171] 0 (fun gk v wr=>v=.int .i64 0∧Hid (WrS wr R B (some ⟨b,o,none⟩) l.length c (L ++ txt (outS (.mk 10 [] 0 a [x,y]))))∧Hid (FrW B R w wr))
  case atStart=>exact⟨rfl,LW4,HF4⟩
  case round =>
   obtain ⟨rfl,HWR,HFR⟩:=hrel
   go_wp2_with fail
   go_end0
   exact⟨rfl,HWR.out,HFR.out⟩
theorem G7 {w0:World} {A:Option Addr} {l:List PV} (h:dY w0 A l) (c:Nat) (a:Nat) (x y z:Item) (hx:WX x) (hgx:bz x) (hs:SC w0 A c l y (outS y)) (hs2:SC w0 A c l z (outS z)):SC w0 A c l (.mk 9 [] 0 a [x,y,z]) (outS (.mk 9 [] 0 a [x,y,z])):=by
 intro i R B w L ha hb hR hw hL
 have hak:=ha.2
 obtain ⟨⟨a',hg⟩,_⟩:=ha
 obtain ⟨hil,b,o,A3,c3,rfl,x0,x1,x2,x3,x4,hc3,hks⟩:=bR h.nod hb hg
 have hks0:=hks
 simp only [offs,List.map_cons,List.map_nil,List.length_nil,List.length_cons] at x0 x1 x2 x3 x4 hc3 hks
 rcases hks with hks | ⟨b3,o3,rfl,hks⟩
 ·cases hks
 have lb:=aa x0
 have hRw:R<w.heap.size:=Nat.lt_of_lt_of_le hw.lt hw.top
 have hRB:=hw.lt
 have htop:=hw.top
 have hi0:(0:Int)≤(i:Int):=by omega
 have hi1:(i:Int)<(l.length:Int):=by omega
 have r0:=hw.cell
 have hk0:=hks 0 _ rfl
 have HK0:=Lib.hid hk0
 clear hk0
 have hk1:=hks 1 _ rfl
 have HK1:=Lib.hid hk1
 clear hk1
 have hk2:=hks 2 _ rfl
 have HK2:=Lib.hid hk2
 clear hk2
 have HE0:=Lib.hid (fun w2 L2 hb2 hw2 hL2=>jF h c hx hgx (i+1) 1 R B w2 L2 hak.1 hb2 hR hw2 hL2 (by omega))
 have HS1:=Lib.hid (fun w2 L2 hb2 hw2 hL2=>hs (i+1+sizeI x) R B w2 L2 hak.2.1 hb2 hR hw2 hL2)
 have HS2:=Lib.hid (fun w2 L2 hb2 hw2 hL2=>hs2 (i+1+sizeI x+sizeI y) R B w2 L2 hak.2.2.1 hb2 hR hw2 hL2)
 have htx:txt (outS (.mk 9 [] 0 a [x,y,z]))=[[105,102]] ++ txt (outX 1 x) ++ txt (outS y) ++ [[101,108,115,101]] ++ txt (outS z):=by simp [outS,txt,wd]
 have hlen:=congrArg List.length htx
 simp only [List.length_append,aD,List.length_cons,List.length_nil] at hlen
 have HTX:=Lib.hid htx; have HLEN:=Lib.hid hlen
 have HW:=Lib.hid hw; have HL:=Lib.hid hL; have HB:=Lib.hid hb
 have HW1:=Lib.hid (hw.alloc (.cells #[.int .u8 9,.string ⟨#[]⟩,.int .i64 0,.int .i64 a',.slice (some ⟨b3,o3,none⟩) 3 c3] 43))
 have HF1:=Lib.hid ((FrW.refl B R w).alloc (.cells #[.int .u8 9,.string ⟨#[]⟩,.int .i64 0,.int .i64 a',.slice (some ⟨b3,o3,none⟩) 3 c3] 43))
 have HBL1:Hid (Blk (w.alloc (.cells #[.int .u8 9,.string ⟨#[]⟩,.int .i64 0,.int .i64 a',.slice (some ⟨b3,o3,none⟩) 3 c3] 43)) w.heap.size 43 _):=Lib.hid (Blk.new w 43 _)
 clear hw hL hg hb hks hak htx hlen hks0
 go_enter Tryz.func83,Tryz.ntmps83
 go_wp2_with fail
 refine (aP R B (w.heap.size+1+1) 1 l.length c _ _ [[105,102]] _ ((HW1.out.alloc (.cells #[.string ⟨#[105,102]⟩,.string ⟨#[102,111,114]⟩] 9)).alloc _) (dF _ _ _ _ (by simp)) rfl (by omega) (by have:=HL.out; have:=HLEN.out; (try simp only [List.length_append,aD,List.length_cons,List.length_nil]); omega)).mono ?_
 rintro e w2 ⟨rfl,hw,hf⟩
 have HW2:=Lib.hid hw
 have HF2:=Lib.hid (((HF1.out.alloc (.cells #[.string ⟨#[105,102]⟩,.string ⟨#[102,111,114]⟩] 9)).alloc _).trans hf)
 have hbl:=hf.blk ((HBL1.out.alloc (.cells #[.string ⟨#[105,102]⟩,.string ⟨#[102,111,114]⟩] 9)).alloc _) (by omega) (by decide)
 clear x0 x1 x2 x3 x4 r0
 have k0:w2.cell? ⟨w.heap.size,0,none⟩=some (.int .u8 9):=hbl.cell 0
 have k1:w2.cell? ⟨w.heap.size,1,none⟩=some (.string ⟨#[]⟩):=hbl.cell 1
 have k2:w2.cell? ⟨w.heap.size,2,none⟩=some (.int .i64 0):=hbl.cell 2
 have k4:w2.cell? ⟨w.heap.size,4,none⟩=some (.slice (some ⟨b3,o3,none⟩) 3 c3):=hbl.cell 4
 have lk:=hbl.lt
 have q0:=((HB.out.trans (HF2.out.below hR (by omega) (by have:=HB.out.size; omega))).cell (p:=⟨b3,_,none⟩) (aa HK0.out)).trans HK0.out
 simp only [Nat.add_zero] at q0
 have lq0:=aa q0
 have q1:=((HB.out.trans (HF2.out.below hR (by omega) (by have:=HB.out.size; omega))).cell (p:=⟨b3,_,none⟩) (aa HK1.out)).trans HK1.out
 have lq1:=aa q1
 have q2:=((HB.out.trans (HF2.out.below hR (by omega) (by have:=HB.out.size; omega))).cell (p:=⟨b3,_,none⟩) (aa HK2.out)).trans HK2.out
 have lq2:=aa q2
 have HBL2:=Lib.hid hbl
 clear hw hf hbl
 go_wp2_with fail
 refine (HE0.out w2 _ (HB.out.trans (HF2.out.below hR (by omega) (by have:=HB.out.size; omega))) HW2.out (by have:=HL.out; have:=HLEN.out; (try simp only [List.length_append,List.length_cons,List.length_nil]); omega)).mono ?_
 rintro e w3 ⟨rfl,hw,hf⟩
 have HW3:=Lib.hid hw
 have HF3:=Lib.hid (HF2.out.trans hf)
 have hbl:=hf.blk HBL2.out (by omega) (by decide)
 clear k0 k1 k2 k4 lk q0 lq0 q1 lq1 q2 lq2
 have k0:w3.cell? ⟨w.heap.size,0,none⟩=some (.int .u8 9):=hbl.cell 0
 have k1:w3.cell? ⟨w.heap.size,1,none⟩=some (.string ⟨#[]⟩):=hbl.cell 1
 have k2:w3.cell? ⟨w.heap.size,2,none⟩=some (.int .i64 0):=hbl.cell 2
 have k4:w3.cell? ⟨w.heap.size,4,none⟩=some (.slice (some ⟨b3,o3,none⟩) 3 c3):=hbl.cell 4
 have lk:=hbl.lt
 have q0:=((HB.out.trans (HF3.out.below hR (by omega) (by have:=HB.out.size; omega))).cell (p:=⟨b3,_,none⟩) (aa HK0.out)).trans HK0.out
 simp only [Nat.add_zero] at q0
 have lq0:=aa q0
 have q1:=((HB.out.trans (HF3.out.below hR (by omega) (by have:=HB.out.size; omega))).cell (p:=⟨b3,_,none⟩) (aa HK1.out)).trans HK1.out
 have lq1:=aa q1
 have q2:=((HB.out.trans (HF3.out.below hR (by omega) (by have:=HB.out.size; omega))).cell (p:=⟨b3,_,none⟩) (aa HK2.out)).trans HK2.out
 have lq2:=aa q2
 have HBL3:=Lib.hid hbl
 clear hw hf hbl
 go_wp2_with fail
 refine (HS1.out w3 _ (HB.out.trans (HF3.out.below hR (by omega) (by have:=HB.out.size; omega))) HW3.out (by have:=HL.out; have:=HLEN.out; (try simp only [List.length_append,aD,List.length_cons,List.length_nil]); omega)).mono ?_
 rintro e w4 ⟨rfl,hw,hf⟩
 have HW4:=Lib.hid hw
 have HF4:=Lib.hid (HF3.out.trans hf)
 have hbl:=hf.blk HBL3.out (by omega) (by decide)
 clear k0 k1 k2 k4 lk q0 lq0 q1 lq1 q2 lq2
 have k0:w4.cell? ⟨w.heap.size,0,none⟩=some (.int .u8 9):=hbl.cell 0
 have k1:w4.cell? ⟨w.heap.size,1,none⟩=some (.string ⟨#[]⟩):=hbl.cell 1
 have k2:w4.cell? ⟨w.heap.size,2,none⟩=some (.int .i64 0):=hbl.cell 2
 have k4:w4.cell? ⟨w.heap.size,4,none⟩=some (.slice (some ⟨b3,o3,none⟩) 3 c3):=hbl.cell 4
 have lk:=hbl.lt
 have q0:=((HB.out.trans (HF4.out.below hR (by omega) (by have:=HB.out.size; omega))).cell (p:=⟨b3,_,none⟩) (aa HK0.out)).trans HK0.out
 simp only [Nat.add_zero] at q0
 have lq0:=aa q0
 have q1:=((HB.out.trans (HF4.out.below hR (by omega) (by have:=HB.out.size; omega))).cell (p:=⟨b3,_,none⟩) (aa HK1.out)).trans HK1.out
 have lq1:=aa q1
 have q2:=((HB.out.trans (HF4.out.below hR (by omega) (by have:=HB.out.size; omega))).cell (p:=⟨b3,_,none⟩) (aa HK2.out)).trans HK2.out
 have lq2:=aa q2
 have HBL4:=Lib.hid hbl
 clear hw hf hbl
 have hc2:¬ c3=2:=by omega
 have hc2':¬ c3≤2:=by omega
 go_wp2_with fail
 go_loopg [171] 1 (fun gk v wr=>∃ j:Nat,j≤1∧1 - j≤gk∧v=.int .i64 j∧Hid (WrS wr R B (some ⟨b,o,none⟩) l.length c (L ++ [[105,102]] ++ txt (outX 1 x) ++ txt (outS y) ++ (if j=0 then [] else [101,108,115,101] :: txt (outS z))))∧Hid (FrW B R w wr))
 case atStart=>exact⟨0,Nat.zero_le _,Nat.le_refl _,rfl,Lib.hid (by simpa using HW4.out),HF4⟩
 case round =>
  obtain ⟨j,hj,hgk,rfl,HWR,HFR⟩:=hrel
  have hBW:Below w0.heap.size w0 wr:=(HB.out.trans (HFR.out.below hR (by omega) (by have:=HB.out.size; omega)))
  by_cases hlt:j=0
  case neg =>
   obtain rfl:j=1:=by omega
   go_wp2_with fail
   go_end0
   refine⟨rfl,?_,HFR.out⟩
   rw [HTX.out]
   simpa [List.append_assoc] using HWR.out
  case pos =>
   subst hlt
   clear q0 q1 q2 lq0 lq1 lq2 k0 k1 k2 k4 lk
   have q2:=(hBW.cell (p:=⟨b3,_,none⟩) (aa HK2.out)).trans HK2.out
   have lq2:=aa q2
   have HWR':Hid (WrS wr R B (some ⟨b,o,none⟩) l.length c (L ++ [[105,102]] ++ txt (outX 1 x) ++ txt (outS y))):=Lib.hid (by simpa using HWR.out)
   clear hBW HWR
   go_wp2_with fail
   refine (aP R B wr.heap.size 1 l.length c _ _ [[101,108,115,101]] _ (HWR'.out.alloc _) (Blk.new wr 9 _) rfl (by omega) (by have:=HL.out; have:=HLEN.out; (try simp only [List.length_append,aD,List.length_cons,List.length_nil]); omega)).mono ?_
   rintro e w5 ⟨rfl,hw,hf⟩
   have HW5:=Lib.hid hw
   have HF5:=Lib.hid ((HFR.out.alloc _).trans hf)
   clear hw hf
   go_wp2_with fail
   refine (HS2.out w5 _ (HB.out.trans (HF5.out.below hR (by omega) (by have:=HB.out.size; omega))) HW5.out (by have:=HL.out; have:=HLEN.out; (try simp only [List.length_append,aD,List.length_cons,List.length_nil]); omega)).mono ?_
   rintro e w6 ⟨rfl,hw,hf⟩
   have HW6:=Lib.hid hw
   have HF6:=Lib.hid (HF5.out.trans hf)
   clear hw hf
   go_wp2_with fail
   cases gk with
   | zero=>omega
   | succ gk =>
    go_roundg gk
    case measure=>omega
    case rel =>
     refine⟨1,by omega,by omega,by simp,Lib.hid ?_,HF6⟩
     simpa [List.append_assoc] using HW6.out
end Go.Proofs.YtkkeocnnecegbaaGreatDoor
namespace Go.Proofs.YtkkeocnnecegbaaGreatDoor
open Go.RowKit
theorem rU (x:Item):∀ (b:Bool) (l:List Item),di b (l ++ [x])=di b l ++ ((if b=true∧l=[] then [] else [mk4 [44]]) ++ [nm (dD x)])
 | b,[]=>by cases b <;> simp [di]
 | b,y :: r=>by
  simp only [List.cons_append,di,rU x false r]
  cases b <;> simp
theorem Cb (ks:List Item) (j:Nat) (h:j<ks.length):di true (ks.take (j+1))=di true (ks.take j) ++ ((if j=0 then [] else [mk4 [44]]) ++ [nm (dD ks[j])]):=by
 rw [take_one ks j h,rU]
 have:(true=true∧ks.take j=[])↔j=0:=by
  rw [List.take_eq_nil_iff]
  constructor
  ·rintro ⟨_,h1 | h1⟩
   ·exact h1
   ·subst h1; simp at h
  ·intro h1; exact⟨rfl,Or.inl h1⟩
 by_cases hj:j=0
 ·rw [if_pos hj,if_pos (this.2 hj)]
 ·rw [if_neg hj,if_neg (fun hh=>hj (this.1 hh))]
theorem AJ (ks:List Item) (j:Nat):(di true (ks.take j)).length≤(di true ks).length:=by
 have key:∀ (a b:List Item) (f:Bool),(di f a).length≤(di f (a ++ b)).length:=by
  intro a
  induction a with
  | nil=>intro b f; simp [di]
  | cons x r ih=>intro b f; have:=ih b false; simp only [List.cons_append,di,List.length_append,List.length_cons]; omega
 have:=key (ks.take j) (ks.drop j) true
 rwa [List.take_append_drop] at this
theorem sV {k:Nat} {l:List Item} (h:∀ x∈l,WN k x):sizeL l=l.length:=by
 induction l with
 | nil=>rfl
 | cons x r ih =>
  obtain ⟨k',t,n,a,ks⟩:=x
  have hx:=h _ (List.mem_cons_self ..)
  simp only [WN] at hx
  obtain ⟨_,_,rfl⟩:=hx
  simp only [sizeL,sizeI,List.length_cons,ih (fun z hz=>h z (List.mem_cons_of_mem _ hz))]
  omega
theorem EP {w0:World} {A:Option Addr} {l:List PV} (h:dY w0 A l) (c:Nat) (t:List UInt8) (a:Nat) (ps:List Item) (y:Item) (hps:∀ x∈ps,WN 4 x) (hlen0:ps.length≤1000000) (hs:SC w0 A c l y (outS y)):SC w0 A c l (.mk 3 t 0 a (ps ++ [y])) (outD (.mk 3 t 0 a (ps ++ [y]))):=by
 intro i R B w L ha hb hR hw hL
 have hak:=ha.2
 obtain ⟨⟨a',hg⟩,_⟩:=ha
 obtain ⟨hil,b,o,A3,c3,rfl,x0,x1,x2,x3,x4,hc3,hks⟩:=bR h.nod hb hg
 simp only [List.length_map,aL,List.length_append,List.length_cons,List.length_nil] at x0 x1 x2 x3 x4 hc3
 rcases hks with h2 | ⟨b3,o3,rfl,hks⟩
 ·exfalso
  have:=congrArg List.length h2
  rw [List.length_map,aL,List.length_append,List.length_nil] at this
  simp at this
 have lb:=aa x0
 have hRw:R<w.heap.size:=Nat.lt_of_lt_of_le hw.lt hw.top
 have hRB:=hw.lt
 have htop:=hw.top
 have hi0:(0:Int)≤(i:Int):=by omega
 have hi1:(i:Int)<(l.length:Int):=by omega
 have r0:=hw.cell
 have htx:txt (outD (.mk 3 t 0 a (ps ++ [y])))=[[102,117,110,99],t,[40]] ++ txt (di true ps) ++ [[41]] ++ txt (outS y):=by
  simp only [outD,List.dropLast_concat,List.getLast?_concat]
  simp [txt,mk4,wd,nm]
 have hlen:=congrArg List.length htx
 simp only [List.length_append,aD,List.length_cons,List.length_nil] at hlen
 have hpsz:=sV hps
 have hjp:∀ j (hj:j<ps.length),((offs (i+1) (ps ++ [y])).map (fun k:Nat=>(k:Int)))[j]? = some ((i+1+j:Nat):Int):=by
  intro j hj
  rw [List.getElem?_map,jv _ _ _ (by rw [List.length_append]; omega),List.take_append_of_le_length (by omega)]
  rw [sV (k:=4) (fun x hx=>hps x (List.mem_of_mem_take hx)),List.length_take,Nat.min_eq_left (by omega)]
  rfl
 have hjl:((offs (i+1) (ps ++ [y])).map (fun k:Nat=>(k:Int)))[ps.length]? = some ((i+1+ps.length:Nat):Int):=by
  rw [List.getElem?_map,jv _ _ _ (by simp),List.take_left',hpsz]
  ·rfl
  ·rfl
 have hyat:AtI (gns l) (i+1+ps.length) y:=by
  have:=jQ hak ps.length (by simp)
  rw [List.take_left' rfl,hpsz] at this
  simpa using this
 have hpat:∀ j (hj:j<ps.length),∃ a1,(gns l)[i+1+j]? = some ⟨4,dD ps[j],0,a1,[]⟩:=by
  intro j hj
  have:=jQ hak j (by rw [List.length_append]; omega)
  rw [List.take_append_of_le_length (by omega),sV (k:=4) (fun x hx=>hps x (List.mem_of_mem_take hx)),List.length_take,Nat.min_eq_left (by omega),List.getElem_append_left hj] at this
  have hw4:=hps ps[j] (List.getElem_mem hj)
  generalize ps[j]=q at *
  obtain ⟨k',t',n',a1,ks'⟩:=q
  simp only [WN] at hw4
  obtain ⟨rfl,rfl,rfl⟩:=hw4
  obtain ⟨⟨a2,h1⟩,_⟩:=this
  exact⟨a2,h1⟩
 have HTX:=Lib.hid htx; have HLEN:=Lib.hid hlen
 have HW:=Lib.hid hw; have HL:=Lib.hid hL; have HB:=Lib.hid hb
 have HKP:=Lib.hid (fun j hj=>hks j _ (hjp j hj)); have HKL:=Lib.hid (hks _ _ hjl)
 have HPA:=Lib.hid hpat; have HYA:=Lib.hid hyat; have HS:=Lib.hid hs
 have HN:=Lib.hid h
 have HW1:=Lib.hid (hw.alloc (.cells #[.int .u8 3,.string ⟨t.toArray⟩,.int .i64 0,.int .i64 a',.slice (some ⟨b3,o3,none⟩) (ps.length+1) c3] 43))
 have HF1:=Lib.hid ((FrW.refl B R w).alloc (.cells #[.int .u8 3,.string ⟨t.toArray⟩,.int .i64 0,.int .i64 a',.slice (some ⟨b3,o3,none⟩) (ps.length+1) c3] 43))
 have HBL1:Hid (Blk (w.alloc (.cells #[.int .u8 3,.string ⟨t.toArray⟩,.int .i64 0,.int .i64 a',.slice (some ⟨b3,o3,none⟩) (ps.length+1) c3] 43)) w.heap.size 43 _):=Lib.hid (Blk.new w 43 _)
 clear hw hL hg hb hks hak htx hlen hs hps hjp hjl hyat hpat hpsz h
 go_enter Tryz.func83,Tryz.ntmps83
 go_wp2_with fail
 refine (aP R B (w.heap.size+1) 3 l.length c _ _ [[102,117,110,99],t,[40]] _ (HW1.out.alloc _) (dF _ _ _ _ (by simp)) rfl (by omega) (by have:=HL.out; have:=HLEN.out; omega)).mono ?_
 rintro e w2 ⟨rfl,hw,hf⟩
 have HW2:=Lib.hid hw
 have HF2:=Lib.hid ((HF1.out.alloc _).trans hf)
 have hbl:=hf.blk (HBL1.out.alloc _) (by omega) (by decide)
 have k4:w2.cell? ⟨w.heap.size,4,none⟩=some (.slice (some ⟨b3,o3,none⟩) (ps.length+1) c3):=hbl.cell 4
 have lk:=hbl.lt
 have HBL2:=Lib.hid hbl
 clear hw hf hbl x0 x1 x2 x3 x4 r0 HW1 HF1 HBL1
 have hpc:ps.length≤c3:=by omega
 go_wp2_with fail
 go_loopg [64] ps.length (fun gk v wr=>∃ j:Nat,j≤ps.length∧ps.length - j≤gk∧v=.int .i64 j∧Hid (WrS wr R B (some ⟨b,o,none⟩) l.length c (L ++ [[102,117,110,99],t,[40]] ++ txt (di true (ps.take j))))∧Hid (FrW B R w wr)∧Hid (Blk wr w.heap.size 43 #[.int .u8 3,.string ⟨t.toArray⟩,.int .i64 0,.int .i64 a',.slice (some ⟨b3,o3,none⟩) (ps.length+1) c3]))
 case atStart=>exact⟨0,Nat.zero_le _,Nat.le_refl _,rfl,Lib.hid (by simpa [di,txt] using HW2.out),HF2,HBL2⟩
 case round =>
  obtain ⟨j,hj,hgk,rfl,HWR,HFR,HBR⟩:=hrel
  clear k4 lk
  by_cases hlt:j<ps.length
  case neg =>
   have hie:j=ps.length:=by omega
   subst hie
   have hful:ps.take ps.length=ps:=List.take_length
   have HWR':Hid (WrS wr R B (some ⟨b,o,none⟩) l.length c (L ++ [[102,117,110,99],t,[40]] ++ txt (di true ps))):=Lib.hid (by have:=HWR.out; rw [hful] at this; exact this)
   clear hful HWR
   go_wp2_with fail
   refine (aP R B wr.heap.size 1 l.length c _ _ [[41]] _ (HWR'.out.alloc _) (Blk.new wr 9 _) rfl (by omega) (by have:=HL.out; have:=HLEN.out; simp only [List.length_append,aD,List.length_cons,List.length_nil]; omega)).mono ?_
   rintro e w3 ⟨rfl,hw,hf⟩
   have HW3:=Lib.hid hw
   have HF3:=Lib.hid ((HFR.out.alloc _).trans hf)
   have hbl:=hf.blk (HBR.out.alloc _) (by omega) (by decide)
   have hB3:Below w0.heap.size w0 w3:=HB.out.trans (HF3.out.below hR (by omega) (by have:=HB.out.size; omega))
   have k4:w3.cell? ⟨w.heap.size,4,none⟩=some (.slice (some ⟨b3,o3,none⟩) (ps.length+1) c3):=hbl.cell 4
   have lk:=hbl.lt
   have q0:=(hB3.cell (p:=⟨b3,_,none⟩) (aa HKL.out)).trans HKL.out
   have lq0:=aa q0
   have HB3:=Lib.hid hB3
   clear hw hf hbl hB3
   obtain ⟨iy,hiy⟩:∃ iy,iy=i+1+ps.length:=⟨_,rfl⟩
   rw [← hiy] at q0 HYA
   clear hiy
   go_wp2_with fail
   refine (HS.out iy R B w3 _ HYA.out HB3.out hR HW3.out (by have:=HL.out; have:=HLEN.out; simp only [List.length_append,aD,List.length_cons,List.length_nil]; omega)).mono ?_
   rintro e w4 ⟨rfl,hw,hf⟩
   have HW4:=Lib.hid hw
   have HF4:=Lib.hid (HF3.out.trans hf)
   clear hw hf
   go_wp2_with fail
   go_end0
   refine⟨rfl,?_,HF4.out⟩
   rw [HTX.out]
   simpa only [List.append_assoc] using HW4.out
  case pos =>
   have hBW:Below w0.heap.size w0 wr:=HB.out.trans (HFR.out.below hR (by omega) (by have:=HB.out.size; omega))
   have k3':=HKP.out j hlt
   have k3:=(hBW.cell (p:=⟨b3,_,none⟩) (aa k3')).trans k3'
   obtain ⟨a1,hga⟩:=HPA.out j hlt
   obtain ⟨hpl,b',o',A4,c4,hbo,y0,y1',y2,y3,y4,_,_⟩:=bR HN.out.nod (Below.refl _ _) hga
   simp only [Option.some.injEq,Addr.mk.injEq,and_true] at hbo
   obtain ⟨rfl,rfl⟩:=hbo
   have y1:=(hBW.cell (p:=⟨b,_,none⟩) (aa y1')).trans y1'
   have Y1:=Lib.hid y1'
   have hsn:=Cb ps j hlt
   have hmono:=AJ ps (j+1)
   rw [hsn,List.length_append,List.length_append] at hmono
   have HMO:=Lib.hid hmono; have HSN:=Lib.hid hsn
   have lb3:=aa k3
   have lby:=aa y1
   have r0:=HWR.out.cell
   have lRR:=aa r0
   have hlt2:(j:Int)<(ps.length:Int):=by omega
   clear k3' hBW hga y0 y1' y2 y3 y4 hsn hmono
   generalize hidx:i+1+j=idx at *
   generalize ps[j]=q at *
   have hpl0:(0:Int)≤(idx:Int):=by omega
   have hpl1:(idx:Int)<(l.length:Int):=by omega
   clear hidx
   by_cases hj0:j=0
   case pos =>
    subst hj0
    have e1:decide (0<(0:Nat))=false:=rfl
    simp only [Nat.add_zero] at k3
    go_wp2_with fail
    refine (aP R B wr.heap.size 1 l.length c _ _ [dD q] _ (HWR.out.alloc _) (Blk.new wr 9 _) rfl (by omega) (by have h1:=HMO.out; have h2:=HL.out; have h3:=HLEN.out; simp only [List.length_append,aD,List.length_cons,List.length_nil] at h1 ⊢; omega)).mono ?_
    rintro e w4 ⟨rfl,hw4,hf4⟩
    have HW4:=Lib.hid hw4
    have HF4:=Lib.hid ((HFR.out.alloc _).trans hf4)
    have HBL4:=Lib.hid (hf4.blk (HBR.out.alloc _) (by omega) (by decide))
    clear hw4 hf4
    go_wp2_with fail
    cases gk with
    | zero=>omega
    | succ gk =>
     go_roundg gk
     case measure=>omega
     case rel =>
      refine⟨0+1,by omega,by omega,by simp,Lib.hid ?_,HF4,HBL4⟩
      have:=HW4.out
      rw [HSN.out]
      simpa [txt,mk4,nm,List.append_assoc] using this
   case neg =>
    have e1:decide (0<j)=true:=decide_eq_true (by omega)
    go_wp2_with fail
    refine (aP R B wr.heap.size 1 l.length c _ _ [[44]] _ (HWR.out.alloc _) (Blk.new wr 9 _) rfl (by omega) (by have h1:=HMO.out; have h2:=HL.out; have h3:=HLEN.out; rw [if_neg hj0] at h1; simp only [List.length_append,aD,List.length_cons,List.length_nil] at h1 ⊢; omega)).mono ?_
    rintro e w3 ⟨rfl,hw3,hf3⟩
    have HW3:=Lib.hid hw3
    have HF3:=Lib.hid ((HFR.out.alloc _).trans hf3)
    have HBL3:=Lib.hid (hf3.blk (HBR.out.alloc _) (by omega) (by decide))
    have hB3:Below w0.heap.size w0 w3:=HB.out.trans (HF3.out.below hR (by omega) (by have:=HB.out.size; omega))
    have y1:w3.cell? ⟨b,o+idx*5+1,none⟩=some (.string ⟨(dD q).toArray⟩):=(hB3.cell (p:=⟨b,_,none⟩) (aa Y1.out)).trans Y1.out
    have r0:=HW3.out.cell
    have lb3:=aa y1
    have lR3:R<w3.heap.size:=aa r0
    clear hw3 hf3 hB3
    go_wp2_with fail
    refine (aP R B w3.heap.size 1 l.length c _ _ [dD q] _ (HW3.out.alloc _) (Blk.new w3 9 _) rfl (by omega) (by have h1:=HMO.out; have h2:=HL.out; have h3:=HLEN.out; rw [if_neg hj0] at h1; simp only [List.length_append,aD,List.length_cons,List.length_nil] at h1 ⊢; omega)).mono ?_
    rintro e w4 ⟨rfl,hw4,hf4⟩
    have HW4:=Lib.hid hw4
    have HF4:=Lib.hid ((HF3.out.alloc _).trans hf4)
    have HBL4:=Lib.hid (hf4.blk (HBL3.out.alloc _) (by omega) (by decide))
    clear hw4 hf4
    go_wp2_with fail
    cases gk with
    | zero=>omega
    | succ gk =>
     go_roundg gk
     case measure=>omega
     case rel =>
      refine⟨j+1,by omega,by omega,by simp,Lib.hid ?_,HF4,HBL4⟩
      have:=HW4.out
      rw [HSN.out,if_neg hj0]
      simpa [txt,mk4,nm,List.append_assoc] using this
end Go.Proofs.YtkkeocnnecegbaaGreatDoor
namespace Go.Proofs.YtkkeocnnecegbaaGreatDoor
open Go.RowKit
theorem Ca {w0:World} {A:Option Addr} {l:List PV} (h:dY w0 A l) (c:Nat) (t:List UInt8) (n:Nat) (a:Nat) (hn:n≤2147483647):SC w0 A c l (.mk 2 t (n:Int) a []) (outD (.mk 2 t (n:Int) a [])):=by
 intro i R B w L ha hb hR hw hL
 obtain ⟨⟨a',hg⟩,_⟩:=ha
 obtain ⟨hil,b,o,A3,c3,rfl,x0,x1,x2,x3,x4,hc3,hks⟩:=bR h.nod hb hg
 simp only [offs,List.map_nil,List.length_nil] at x0 x1 x2 x3 x4 hc3
 have lb:=aa x0
 have hRw:R<w.heap.size:=Nat.lt_of_lt_of_le hw.lt hw.top
 have hRB:=hw.lt
 have htop:=hw.top
 have hi0:(0:Int)≤(i:Int):=by omega
 have hi1:(i:Int)<(l.length:Int):=by omega
 have r0:=hw.cell
 have htx:txt (outD (.mk 2 t (n:Int) a []))=[[118,97,114],t,[91],Lib.itoa (n:Int),[93]] ++ [[59]]:=by simp [outD,txt,mk4,wd,nm,nb]
 have hlen:=congrArg List.length htx
 simp only [List.length_append,aD,List.length_cons,List.length_nil] at hlen
 have HTX:=Lib.hid htx; have HLEN:=Lib.hid hlen
 have HW:=Lib.hid hw; have HL:=Lib.hid hL; have HB:=Lib.hid hb
 have HT:=Lib.hid (h.tab.below hb)
 have HW1:=Lib.hid (hw.alloc (.cells #[.int .u8 2,.string ⟨t.toArray⟩,.int .i64 (n:Int),.int .i64 a',.slice A3 0 c3] 43))
 have HF1:=Lib.hid ((FrW.refl B R w).alloc (.cells #[.int .u8 2,.string ⟨t.toArray⟩,.int .i64 (n:Int),.int .i64 a',.slice A3 0 c3] 43))
 have HT1:=Lib.hid (HT.out.below ((Below.refl _ _).alloc (Nat.le_refl _) (.cells #[.int .u8 2,.string ⟨t.toArray⟩,.int .i64 (n:Int),.int .i64 a',.slice A3 0 c3] 43)))
 have hbl1:Blk (w.alloc (.cells #[.int .u8 2,.string ⟨t.toArray⟩,.int .i64 (n:Int),.int .i64 a',.slice A3 0 c3] 43)) w.heap.size 43 #[.int .u8 2,.string ⟨t.toArray⟩,.int .i64 (n:Int),.int .i64 a',.slice A3 0 c3]:=Blk.new w 43 _
 have HBL1:=Lib.hid hbl1
 obtain ⟨X,hX⟩:∃ X,X=w.heap.size:=⟨_,rfl⟩
 clear hw hL hg hb hks hc3 htx hlen hbl1 h
 go_enter Tryz.func83,Tryz.ntmps83
 go_wp2_with fail
 rw [← hX] at HBL1 ⊢
 have hRX:R<X:=by omega
 have HXX:=Lib.hid hX
 clear hX x0 x1 x2 x3 x4 r0
 generalize w.alloc (.cells #[.int .u8 2,.string ⟨t.toArray⟩,.int .i64 (n:Int),.int .i64 a',.slice A3 0 c3] 43)=W1 at *
 have c1:W1.cell? ⟨X,1,none⟩=some (.string ⟨t.toArray⟩):=HBL1.out.cell 1
 have c2:W1.cell? ⟨X,2,none⟩=some (.int .i64 (n:Int)):=HBL1.out.cell 2
 have lX:=HBL1.out.lt
 refine wp_region_held_drew (S:=fun w'=>w'.cell? ⟨X,1,none⟩=some (.string ⟨t.toArray⟩)∧w'.cell? ⟨X,2,none⟩=some (.int .i64 (n:Int))) (by kernel_rfl) ⟨c1,c2⟩ (fun hS=>?_)
 refine wpAnyH_take (i:=0) (v:=.pointer (some ⟨R,0,none⟩)) rfl (by kernel_rfl) (by kernel_rfl) (by kernel_rfl) (fun _ _ _ h=>h) (Or.inl ⟨by rfl,?_⟩) hS ?_
 ·intro W hW
  go_simp
 simp only [Act.put,List.setIfInBounds_toArray]
 refine wpAnyH_take (i:=1) (v:=.pointer (some ⟨X,1,none⟩)) rfl (by kernel_rfl) (by kernel_rfl) (by kernel_rfl) (fun _ _ _ h=>h) (Or.inl ⟨by rfl,?_⟩) hS ?_
 ·intro W hW
  go_simp
 simp only [Act.put]
 refine wpAnyH_take (i:=2) (v:=.string ⟨t.toArray⟩) rfl (by kernel_rfl) (by kernel_rfl) (by kernel_rfl) (fun _ _ _ h=>h) (Or.inl ⟨by rfl,?_⟩) hS ?_
 ·rintro W ⟨hW1,hW2⟩
  go_simp
 simp only [Act.put]
 refine wpAnyH_take (i:=3) (v:=.pointer (some ⟨X,2,none⟩)) rfl (by kernel_rfl) (by kernel_rfl) (by kernel_rfl) (fun _ _ _ h=>h) (Or.inl ⟨by rfl,?_⟩) hS ?_
 ·intro W hW
  go_simp
 simp only [Act.put]
 refine wpAnyH_take (i:=4) (v:=.int .i64 (n:Int)) rfl (by kernel_rfl) (by kernel_rfl) (by kernel_rfl) (fun _ _ _ h=>h) (Or.inl ⟨by rfl,?_⟩) hS ?_
 ·rintro W ⟨hW1,hW2⟩
  go_simp
 simp only [Act.put]
 refine wpAnyH_ready (rs:=[5]) (by kernel_rfl) (by simp) ?_
 refine AllReadyH.cons rfl (fun K hK=>?_) .nil
 go_simp
 have hdr:Below W1.heap.size W1 W1.drew:=⟨rfl,rfl,rfl,Nat.le_refl _,fun _ _=>rfl⟩
 refine (zQ (n:Int) (by omega) (by omega) W1.drew (HT1.out.below hdr)).mono ?_
 rintro e w4 ⟨rfl,hb4⟩
 have hb4':Below W1.heap.size W1 w4:=⟨hb4.os,hb4.tape,hb4.output,hb4.size,hb4.block⟩
 have hbl4:Blk w4 X 43 _:=(hb4.block X lX).trans HBL1.out
 have e1:w4.cell? ⟨X,1,none⟩=some (.string ⟨t.toArray⟩)∧w4.cell? ⟨X,2,none⟩=some (.int .i64 (n:Int)):=⟨hbl4.cell 1,hbl4.cell 2⟩
 have HF4:=Lib.hid (HF1.out.trans (.of hb4'))
 have HW4:=Lib.hid (HW1.out.below hb4')
 have HBL4:=Lib.hid hbl4
 clear hb4 hb4' hbl4 hdr
 refine hK.out _ _ e1 (fun hS4=>?_)
 clear hK
 refine wpAnyH_ready (rs:=[6]) (by kernel_rfl) (by simp) ?_
 refine AllReadyH.cons rfl (fun K hK=>?_) .nil
 go_simp
 have e2:∀ o,(w4.alloc o).cell? ⟨X,1,none⟩=some (.string ⟨t.toArray⟩)∧(w4.alloc o).cell? ⟨X,2,none⟩=some (.int .i64 (n:Int)):=fun o=>⟨(HBL4.out.alloc o).cell 1,(HBL4.out.alloc o).cell 2⟩
 refine hK.out _ _ (e2 _) (fun _=>?_)
 clear hK
 refine wpAnyH_ready (rs:=[7]) (by kernel_rfl) (by simp) ?_
 refine AllReadyH.cons rfl (fun K hK=>?_) .nil
 go_simp
 refine (aP R B w4.heap.size 5 l.length c _ _ [[118,97,114],t,[91],Lib.itoa (n:Int),[93]] _ (HW4.out.alloc _) (Blk.new w4 9 _) rfl (by omega) (by have:=HL.out; have:=HLEN.out; omega)).mono ?_
 rintro e w5 ⟨rfl,hw5,hf5⟩
 have hbl5:=hf5.blk (HBL4.out.alloc _) (by omega) (by decide)
 have e3:w5.cell? ⟨X,1,none⟩=some (.string ⟨t.toArray⟩)∧w5.cell? ⟨X,2,none⟩=some (.int .i64 (n:Int)):=⟨hbl5.cell 1,hbl5.cell 2⟩
 refine hK.out _ _ e3 (fun _=>?_)
 clear hK
 refine wpAnyH_done (by kernel_rfl) ?_ _
 have HW5:=Lib.hid hw5
 have HF5:=Lib.hid ((HF4.out.alloc _).trans hf5)
 clear hw5 hf5 hbl5 e1 e2 e3 hS hS4 c1 c2
 go_wp2_with fail
 refine (aP R B w5.heap.size 1 l.length c _ _ [[59]] _ (HW5.out.alloc _) (Blk.new w5 9 _) rfl (by omega) (by have:=HL.out; have:=HLEN.out; simp only [List.length_append,List.length_cons,List.length_nil]; omega)).mono ?_
 rintro e w6 ⟨rfl,hw6,hf6⟩
 have HW6:=Lib.hid hw6
 have HF6:=Lib.hid ((HF5.out.alloc _).trans hf6)
 clear hw6 hf6
 go_wp2_with fail
 go_end0
 refine⟨rfl,?_,HF6.out⟩
 rw [HTX.out,← List.append_assoc]
 exact HW6.out
end Go.Proofs.YtkkeocnnecegbaaGreatDoor
namespace Go.Proofs.YtkkeocnnecegbaaGreatDoor
open Go.RowKit
theorem WrS.drew {w:World} {R B:Nat} {A:Option Addr} {n c:Nat} {L:List (List UInt8)} (h:WrS w R B A n c L):WrS w.drew R B A n c L:=h.below ⟨rfl,rfl,rfl,Nat.le_refl _,fun _ _=>rfl⟩
theorem FrW.drew {B R:Nat} {a b:World} (h:FrW B R a b):FrW B R a b.drew:=h.trans (.of ⟨rfl,rfl,rfl,Nat.le_refl _,fun _ _=>rfl⟩)
theorem Blk.drew {w:World} {X T:Nat} {cs:Array Value} (h:Blk w X T cs):Blk w.drew X T cs:=h
theorem ED {w0:World} {A:Option Addr} {l:List PV} (h:dY w0 A l) (c:Nat) (t:List UInt8) (a:Nat) (u:List UInt8) (bb:Nat) (ls:List Item) (hls:WXs ls) (hgl:eH ls) (hlen0:ls.length≤1000000):SC w0 A c l (.mk 15 t 0 a (.mk 16 u 0 bb [] :: ls)) (outS (.mk 15 t 0 a (.mk 16 u 0 bb [] :: ls))):=by
 intro i R B w L ha hb hR hw hL
 obtain ⟨⟨a',hg⟩,⟨⟨a2,hg2⟩,_⟩,hak⟩:=ha
 obtain ⟨hil,b,o,A3,c3,rfl,x0,x1,x2,x3,x4,hc3,hks⟩:=bR h.nod hb hg
 obtain ⟨hil2,b',o',A4,c4,hbo,y0,y1,y2,y3,y4,_,_⟩:=bR h.nod hb hg2
 simp only [Option.some.injEq,Addr.mk.injEq,and_true] at hbo
 obtain ⟨rfl,rfl⟩:=hbo
 simp only [offs,sizeI,sizeL,List.map_cons,List.length_cons,List.length_map,aL] at x0 x1 x2 x3 x4 hc3 hks
 rcases hks with hks | ⟨b3,o3,rfl,hks⟩
 ·cases hks
 have lb:=aa x0
 have hRw:R<w.heap.size:=Nat.lt_of_lt_of_le hw.lt hw.top
 have hRB:=hw.lt
 have htop:=hw.top
 have hi0:(0:Int)≤(i:Int):=by omega
 have hi1:(i:Int)<(l.length:Int):=by omega
 have r0:=hw.cell
 have htx:txt (outS (.mk 15 t 0 a (.mk 16 u 0 bb [] :: ls)))=[[99,97,108,108],t,[61],u,[40]] ++ txt (outA true ls) ++ [[41]] ++ [[59]]:=by simp [outS,dD,txt,mk4,wd,nm]
 have hlen:=congrArg List.length htx
 simp only [List.length_append,aD,List.length_cons,List.length_nil] at hlen
 have hk0:=hks 0 _ rfl
 have hk0w:=(hb.cell (p:=⟨b3,_,none⟩) (aa hk0)).trans hk0
 simp only [Nat.add_zero] at hk0w
 have hints:gU w0 (if c3=1 then some ⟨b3,o3,none⟩ else some ⟨b3,o3+1,none⟩) ((offs (i+1+1) ls).map (fun k:Nat=>(k:Int))):=by
  by_cases hc:c3=1
  ·left
   have:ls=[]:=List.length_eq_zero_iff.1 (by omega)
   rw [this]; rfl
  ·right
   rw [if_neg hc]
   refine⟨b3,o3+1,rfl,fun j k hj=>?_⟩
   have:=hks (j+1) k (by simpa using hj)
   rw [show o3+1+j=o3+(j+1) by omega]
   exact this
 have hF1:∀ W,Below w0.heap.size w0 W→W.cell? ⟨b3,o3,none⟩=some (.int .i64 ((i+1:Nat):Int)):=fun W hW=>(hW.cell (p:=⟨b3,_,none⟩) (aa hk0)).trans hk0
 obtain ⟨_,b6,o6,A6,c6,hbo6,_,z1,_,_,_,_,_⟩:=bR h.nod (Below.refl _ _) hg2
 simp only [Option.some.injEq,Addr.mk.injEq,and_true] at hbo6
 obtain ⟨rfl,rfl⟩:=hbo6
 have hF2:∀ W,Below w0.heap.size w0 W→W.cell? ⟨b,o+(i+1)*5+1,none⟩=some (.string ⟨u.toArray⟩):=fun W hW=>(hW.cell (p:=⟨b,_,none⟩) (aa z1)).trans z1
 have hex:=fun c5 w2 L2 hb2 hw2 hL2=>jO h c _ c5 ls hls hgl (i+1+1) R B w2 L2 hlen0 hints hak hb2 hR hw2 hL2
 have HTX:=Lib.hid htx; have HLEN:=Lib.hid hlen
 have HW:=Lib.hid hw; have HL:=Lib.hid hL; have HB:=Lib.hid hb
 have HEX:=Lib.hid hex
 have hy1:∀ W,Below w.heap.size w W→W.cell? ⟨b,o+(i+1)*5+1,none⟩=some (.string ⟨u.toArray⟩):=fun W hW=>(hW.cell (p:=⟨b,_,none⟩) (aa y1)).trans y1
 have hk0':∀ W,Below w.heap.size w W→W.cell? ⟨b3,o3,none⟩=some (.int .i64 ((i+1:Nat):Int)):=fun W hW=>(hW.cell (p:=⟨b3,_,none⟩) (aa hk0w)).trans hk0w
 have hB1:Below w.heap.size w (w.alloc (.cells #[.int .u8 15,.string ⟨t.toArray⟩,.int .i64 0,.int .i64 a',.slice (some ⟨b3,o3,none⟩) (ls.length+1) c3] 43)):=(Below.refl _ _).alloc (Nat.le_refl _) _
 have HW1:=Lib.hid (hw.alloc (.cells #[.int .u8 15,.string ⟨t.toArray⟩,.int .i64 0,.int .i64 a',.slice (some ⟨b3,o3,none⟩) (ls.length+1) c3] 43))
 have HF1:=Lib.hid ((FrW.refl B R w).alloc (.cells #[.int .u8 15,.string ⟨t.toArray⟩,.int .i64 0,.int .i64 a',.slice (some ⟨b3,o3,none⟩) (ls.length+1) c3] 43))
 have hbl1:Blk (w.alloc (.cells #[.int .u8 15,.string ⟨t.toArray⟩,.int .i64 0,.int .i64 a',.slice (some ⟨b3,o3,none⟩) (ls.length+1) c3] 43)) w.heap.size 43 #[.int .u8 15,.string ⟨t.toArray⟩,.int .i64 0,.int .i64 a',.slice (some ⟨b3,o3,none⟩) (ls.length+1) c3]:=Blk.new w 43 _
 have HBL1:=Lib.hid hbl1
 have d1:=hy1 _ hB1
 have d2:=hk0' _ hB1
 have d3:=HW1.out.cell
 obtain ⟨i1,hi1'⟩:∃ i1,i1=i+1:=⟨_,rfl⟩
 rw [← hi1'] at d1 d2 hil2 hF1 hF2
 have F1:=Lib.hid hF1; have F2:=Lib.hid hF2
 clear hF1 hF2 z1
 have hj0:(0:Int)≤(i1:Int):=by omega
 have hj1:(i1:Int)<(l.length:Int):=by omega
 obtain ⟨X,hX⟩:∃ X,X=w.heap.size:=⟨_,rfl⟩
 clear hw hL hg hg2 hb hks htx hlen hbl1 h hy1 hk0' hB1 hk0 hk0w hints hex hak y0 y1 y2 y3 y4 hi1' hil2
 go_enter Tryz.func83,Tryz.ntmps83
 go_wp2_with fail
 rw [← hX] at HBL1 ⊢
 have hRX:R<X:=by omega
 have HXX:=Lib.hid hX
 clear hX x0 x1 x2 x3 x4 r0
 generalize w.alloc (.cells #[.int .u8 15,.string ⟨t.toArray⟩,.int .i64 0,.int .i64 a',.slice (some ⟨b3,o3,none⟩) (ls.length+1) c3] 43)=W1 at *
 have c1:W1.cell? ⟨X,1,none⟩=some (.string ⟨t.toArray⟩):=HBL1.out.cell 1
 have c4:W1.cell? ⟨X,4,none⟩=some (.slice (some ⟨b3,o3,none⟩) (ls.length+1) c3):=HBL1.out.cell 4
 have lX:=HBL1.out.lt
 have ld1:=aa d1
 have ld2:=aa d2
 have ld3:=aa d3
 go_region_held3 (fun w'=>w'.cell? ⟨X,1,none⟩=some (.string ⟨t.toArray⟩)∧w'.cell? ⟨X,4,none⟩=some (.slice (some ⟨b3,o3,none⟩) (ls.length+1) c3)∧w'.cell? ⟨R,0,none⟩=some (.slice (some ⟨b,o,none⟩) l.length c)∧w'.cell? ⟨b3,o3,none⟩=some (.int .i64 (i1:Int))∧w'.cell? ⟨b,o+i1*5+1,none⟩=some (.string ⟨u.toArray⟩))
  (first | go_keep)
  (first
   | (go_at_call 135; refine (aP R B W1.heap.size 5 l.length c _ _ [[99,97,108,108],t,[61],u,[40]] _ (HW1.out.drew.alloc _) (Blk.new W1.drew 9 _) rfl (by omega) (by have:=HL.out; have:=HLEN.out; omega)).mono ?_; rintro e w5 ⟨rfl,hw5,hf5⟩; have hbl5:=hf5.blk (HBL1.out.drew.alloc _) (by omega) (by decide); have hF5:=(HF1.out.drew.alloc (.cells #[.string ⟨#[99,97,108,108]⟩,.string ⟨t.toArray⟩,.string ⟨#[61]⟩,.string ⟨u.toArray⟩,.string ⟨#[40]⟩] 9)).trans hf5; have hB5:Below R w w5:=hF5.below (Nat.le_refl _) (by omega) (by omega); have g1:w5.cell? ⟨X,1,none⟩=some (.string ⟨t.toArray⟩):=hbl5.cell 1; have g2:w5.cell? ⟨X,4,none⟩=some (.slice (some ⟨b3,o3,none⟩) (ls.length+1) c3):=hbl5.cell 4; have g3:=hw5.cell; have g4:=F1.out w5 (HB.out.trans (hF5.below hR (by omega) (by have:=HB.out.size; omega))); have g5:=F2.out w5 (HB.out.trans (hF5.below hR (by omega) (by have:=HB.out.size; omega))); have HW5:=Lib.hid hw5; have HF5:=Lib.hid hF5; have lX5:=hbl5.lt; clear hw5 hf5 hbl5 hF5 hB5))
 by_cases hc:c3=1
 case pos =>
  subst hc
  obtain rfl:ls=[]:=List.length_eq_zero_iff.1 (by omega)
  have hcall:=HEX.out 0 w5 _ (HB.out.trans (HF5.out.below hR (by omega) (by have:=HB.out.size; omega))) HW5.out (by have:=HL.out; have:=HLEN.out; simp only [List.length_append,List.length_cons,List.length_nil]; omega)
  go_wp2_with fail
  refine (hcall).mono ?_
  rintro e w6 ⟨rfl,hw6,hf6⟩
  have HW6:=Lib.hid hw6
  have HF6:=Lib.hid (HF5.out.trans hf6)
  clear hw6 hf6
  go_wp2_with fail
  refine (aP R B w6.heap.size 1 l.length c _ _ [[41]] _ (HW6.out.alloc _) (Blk.new w6 9 _) rfl (by omega) (by have:=HL.out; have:=HLEN.out; simp only [List.length_append,aD,List.length_cons,List.length_nil]; omega)).mono ?_
  rintro e w7 ⟨rfl,hw7,hf7⟩
  have HW7:=Lib.hid hw7
  have HF7:=Lib.hid ((HF6.out.alloc _).trans hf7)
  clear hw7 hf7
  go_wp2_with fail
  refine (aP R B w7.heap.size 1 l.length c _ _ [[59]] _ (HW7.out.alloc _) (Blk.new w7 9 _) rfl (by omega) (by have:=HL.out; have:=HLEN.out; simp only [List.length_append,aD,List.length_cons,List.length_nil]; omega)).mono ?_
  rintro e w8 ⟨rfl,hw8,hf8⟩
  have HW8:=Lib.hid hw8
  have HF8:=Lib.hid ((HF7.out.alloc _).trans hf8)
  clear hw8 hf8
  go_wp2_with fail
  go_end0
  refine⟨rfl,?_,HF8.out⟩
  rw [HTX.out]
  simpa only [List.append_assoc] using HW8.out
 case neg =>
  have hcall:=HEX.out (c3 - 1) w5 _ (HB.out.trans (HF5.out.below hR (by omega) (by have:=HB.out.size; omega))) HW5.out (by have:=HL.out; have:=HLEN.out; simp only [List.length_append,List.length_cons,List.length_nil]; omega)
  rw [if_neg hc] at hcall
  go_wp2_with fail
  refine (hcall).mono ?_
  rintro e w6 ⟨rfl,hw6,hf6⟩
  have HW6:=Lib.hid hw6
  have HF6:=Lib.hid (HF5.out.trans hf6)
  clear hw6 hf6
  go_wp2_with fail
  refine (aP R B w6.heap.size 1 l.length c _ _ [[41]] _ (HW6.out.alloc _) (Blk.new w6 9 _) rfl (by omega) (by have:=HL.out; have:=HLEN.out; simp only [List.length_append,aD,List.length_cons,List.length_nil]; omega)).mono ?_
  rintro e w7 ⟨rfl,hw7,hf7⟩
  have HW7:=Lib.hid hw7
  have HF7:=Lib.hid ((HF6.out.alloc _).trans hf7)
  clear hw7 hf7
  go_wp2_with fail
  refine (aP R B w7.heap.size 1 l.length c _ _ [[59]] _ (HW7.out.alloc _) (Blk.new w7 9 _) rfl (by omega) (by have:=HL.out; have:=HLEN.out; simp only [List.length_append,aD,List.length_cons,List.length_nil]; omega)).mono ?_
  rintro e w8 ⟨rfl,hw8,hf8⟩
  have HW8:=Lib.hid hw8
  have HF8:=Lib.hid ((HF7.out.alloc _).trans hf8)
  clear hw8 hf8
  go_wp2_with fail
  go_end0
  refine⟨rfl,?_,HF8.out⟩
  rw [HTX.out]
  simpa only [List.append_assoc] using HW8.out
end Go.Proofs.YtkkeocnnecegbaaGreatDoor
