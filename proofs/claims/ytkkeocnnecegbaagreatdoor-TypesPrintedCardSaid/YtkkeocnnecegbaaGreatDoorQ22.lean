/- Joint text: TJ. By an AI agent. -/
import Derived.Test.YtkkeocnnecegbaaGreatDoorQ21
import Derived.Deep.RegionHeld3
set_option linter.all false
set_option maxRecDepth 100000
set_option maxHeartbeats 64000000
namespace Go.Proofs.YtkkeocnnecegbaaGreatDoor
open Go.RowKit
def FV (R OB B:Nat) (l:List PV) (i:Nat) (code:Int) (b:Bool) (w:World) (e:Ending) (w':World):Prop :=
 Below w.heap.size w w'∧((b=false∧e=.returned .nilIface)∨(b=true∧∃ p,e=.returned (.iface 121 (.pointer p))∧aF l w' R OB (some i) code (.iface 121 (.pointer p))))
theorem mX {w:World} {R OB B n c:Nat} {A:Option Addr} {l:List PV} {mn:Int} {s:TS} {va vf vs:Value} (hT:bg w A l) (hn:n=l.length) (h:StT w R OB B n c A mn s va vf vs) (i:Nat) (g:PV) (hg:l[i]? = some g) (code:Int) (b:Bool) :
  Calls Tryz.prog 161 #[.pointer (some ⟨R,0,none⟩),.int .i64 i,.int .i64 code,.bool b] w (FV R OB B l i code b w):=by
 cases b with
 | false =>
  refine (mr _ _ _ _).mono ?_
  rintro e w' ⟨rfl,rfl⟩
  exact⟨Below.refl _ _,Or.inl ⟨rfl,rfl⟩⟩
 | true =>
  refine (kT R n c i code A l g w (h.rd.cell 0) hT hn hg).mono ?_
  rintro e w' ⟨rfl,rfl⟩
  exact⟨(Below.refl _ _).alloc (Nat.le_refl _) _,Or.inr ⟨rfl,_,rfl,aF.mk hg h.rd.lt h.obl.lt⟩⟩
theorem sj {α β γ:Type} {H G:α→β→γ→Prop} {goal:Prop} (h1:(∀ a b c,H a b c→G a b c)→goal) (h2:∀ a b c,H a b c→G a b c):goal:=h1 h2
def tK (R OB B n c:Nat) (A:Option Addr) (l:List PV) (mn:Int) (vs:Value) (s:TS) (w:World) (res:Except fK TS) (e:Ending) (w':World):Prop :=
 FrY R OB B w w'∧∃ s' va' vf' v,StT w' R OB B n c A mn s' va' vf' vs∧s'.seen=s.seen∧s'.vars=s.vars∧s'.ak.length≤s.ak.length+1∧s'.fns.length≤s.fns.length+1∧e=.returned v∧xJ l w' R OB res s' v
theorem Gu (w0:World) (n cc:Nat) (A:Option Addr) (l:List PV) (hT:bg w0 A l) (hn:n=l.length) (R OB B:Nat) (mn:Int) (va vf vs:Value) (s:TS) (i:Nat) (t:List UInt8) (nn:Int) (pp:Nat) (ks:List Item) (w:World) (hat:AtI (gns l) i (.mk 2 t nn pp ks)) (hW:TW w0 w R OB B) (h:StT w R OB B n cc A mn s va vf vs) (hal:s.ak.length≤900000) (hfl:s.fns.length≤900000) (hkl:ks.length≤900000) (htl:t.length≤900000) :
  Calls Tryz.prog 113 #[.pointer (some ⟨R,0,none⟩),.int .i64 i] w (tK R OB B n cc A l mn vs s w (headT i (.mk 2 t nn pp ks) s)):=by
 obtain ⟨⟨a,hgi⟩,hat2⟩:=hat
 obtain ⟨v,hl⟩:=gP hgi
 have hi:i<n:=by rw [hn]; exact (List.getElem?_eq_some_iff.1 hl).1
 obtain ⟨b,o,rfl,x0,x1,x2,x3,x4,A3,c3,hxv0,hc30,hin⟩:=hT.at hl
 have hxv:v=.slice A3 ((offs (i+1) ks).map (fun k:Nat=>(k:Int))).length c3:=hxv0
 clear hxv0 hc30
 rw [List.length_map,aL] at hxv
 subst hxv
 have y0:w.cell? ⟨b,o+i*5,none⟩=some (.int .u8 (2:Nat)):=(hW.below.cell (p:=⟨b,_,none⟩) (aa x0)).trans x0
 have y1:w.cell? ⟨b,o+i*5+1,none⟩=some (.string ⟨t.toArray⟩):=(hW.below.cell (p:=⟨b,_,none⟩) (aa x1)).trans x1
 have y2:w.cell? ⟨b,o+i*5+2,none⟩=some (.int .i64 nn):=(hW.below.cell (p:=⟨b,_,none⟩) (aa x2)).trans x2
 have y3:w.cell? ⟨b,o+i*5+3,none⟩=some (.int .i64 a):=(hW.below.cell (p:=⟨b,_,none⟩) (aa x3)).trans x3
 have y4:w.cell? ⟨b,o+i*5+4,none⟩=some (.slice A3 ks.length c3):=(hW.below.cell (p:=⟨b,_,none⟩) (aa x4)).trans x4
 have lb:=aa y0
 have r0:w.cell? ⟨R,0,none⟩=some (.slice (some ⟨b,o,none⟩) n cc):=h.rd.cell 0
 have lR:=h.rd.lt; have lO:=h.obl.lt
 have hii:(i:Int)<(n:Int):=by omega
 have hi0:(0:Int)≤(i:Int):=by omega
 obtain ⟨T,hTT⟩:∃ T:ByteArray,T=⟨t.toArray⟩:=⟨_,rfl⟩
 have hTd:T.data.toList=t:=by rw [hTT]
 have hTz:T.size=t.length:=by rw [← bB,hTd]
 have HTT:=Lib.hid hTT
 rw [← hTT] at y1
 obtain ⟨i0,hi0',hz0,hz1,hz2⟩:=info_parts yc
 have hb0:Below w.heap.size w (w.alloc (.cells #[.int .u8 (2:Nat),.string T,.int .i64 nn,.int .i64 a,.slice A3 ks.length c3] 43)):=(Below.refl _ _).alloc (Nat.le_refl _) _
 have HBX:Hid (Blk (w.alloc (.cells #[.int .u8 (2:Nat),.string T,.int .i64 nn,.int .i64 a,.slice A3 ks.length c3] 43)) w.heap.size 43 #[.int .u8 (2:Nat),.string T,.int .i64 nn,.int .i64 a,.slice A3 ks.length c3]):=Lib.hid (Blk.new _ _ _)
 have HFA:Hid (FrY R OB B w (w.alloc (.cells #[.int .u8 (2:Nat),.string T,.int .i64 nn,.int .i64 a,.slice A3 ks.length c3] 43))):=Lib.hid (.of hb0)
 obtain ⟨A5,c5,hv5⟩:=bJ h.ak
 subst hv5
 obtain ⟨m,hm⟩:∃ m,m=s.ak.length:=⟨_,rfl⟩
 have hml:m≤900000:=by omega
 rw [← hm] at h
 have HM:=Lib.hid hm
 have HSA:=Lib.hid (h.below hb0)
 have HWA:=Lib.hid (hW.next HFA.out)
 have HRO:Hid (w.heap.size≠R∧w.heap.size≠OB):=Lib.hid ⟨by omega,by omega⟩
 have HT:=Lib.hid hT; have HN:=Lib.hid hn; have HG:=Lib.hid hl; have HTD:=Lib.hid hTd; have HTZ:=Lib.hid hTz
 obtain ⟨res,hres⟩:∃ res,res=headT i (.mk 2 t nn pp ks) s:=⟨_,rfl⟩
 rw [← hres]
 have HRS:=Lib.hid hres
 clear hT hn hl hgi hat2 hTT hTd hTz hin x0 x1 x2 x3 x4 hb0 h hW hres hm
 go_enter Tryz.func113,Tryz.ntmps113
 go_upto_region 2 with fail
 clear y0 y1 y2 y3 y4 lb r0 lR
 generalize w.alloc (.cells #[.int .u8 (2:Nat),.string T,.int .i64 nn,.int .i64 a,.slice A3 ks.length c3] 43)=wa at *
 have H2:=Lib.hid (fun W (f:FrY R OB B wa W)=>f.hi _ _ _ HBX.out HRO.out.1 HRO.out.2 ⟨by decide,by decide,by decide⟩)
 have q0:wa.cell? ⟨w.heap.size,0,none⟩=some (.int .u8 (2:Nat)):=HBX.out.cell 0
 have lq:=HBX.out.lt
 have hlen:i<s.of.length:=by rw [HSA.out.ofn]; exact hi
 have r4:wa.cell? ⟨R,4,none⟩=some (.slice (some ⟨OB,0,none⟩) n n):=HSA.out.rd.cell 4
 have rL:wa.cell? ⟨R,1,none⟩=some (.slice A5 m c5):=HSA.out.rd.cell 1
 have lR:=HSA.out.rd.lt; have lO:=HSA.out.obl.lt
 have ko:wa.cell? ⟨OB,i,none⟩=some (.int .i64 s.of[i]):=by rw [HSA.out.obl.cell i]; simp [hlen]
 have fo:=HSA.out.obl.free i
 go_upto_region 3 with fail
 go_region
 have HS3:=Lib.hid ((HSA.out.put i (m:Int)).below ((Below.refl _ _).drew))
 have HF3:Hid (FrY R OB B wa (wa.setCell ⟨OB,i,none⟩ (.int .i64 (m:Int))).drew):=Lib.hid ((((FrY.refl R OB B wa).xQ i (.int .i64 (m:Int)))).trans (.of (((Below.refl _ (wa.setCell ⟨OB,i,none⟩ (.int .i64 (m:Int)))).drew))))
 clear r4 rL lR lO ko fo q0 lq
 generalize (wa.setCell ⟨OB,i,none⟩ (.int .i64 (m:Int))).drew=w3 at *
 have q1:w3.cell? ⟨w.heap.size,1,none⟩=some (.string T):=(H2.out w3 HF3.out).cell 1
 have lq:=(H2.out w3 HF3.out).lt
 go_wp2_with fail
 refine (nW HS3.out T (by show s.ak.length≤_; omega)).mono ?_
 rw [HTD.out,show (s.put i (m:Int)).array t=s.array t from rfl]
 rintro e w4 ⟨rfl,hb4⟩
 have HS4:=Lib.hid (HS3.out.below hb4)
 have HF4:Hid (FrY R OB B wa w4):=Lib.hid (HF3.out.trans (.of hb4))
 clear hb4 q1 lq HS3 HF3
 obtain ⟨tw,htw⟩:∃ b,decide (0≤s.array t)=b:=⟨_,rfl⟩
 have q1:w4.cell? ⟨w.heap.size,1,none⟩=some (.string T):=(H2.out w4 HF4.out).cell 1
 have q2:w4.cell? ⟨w.heap.size,2,none⟩=some (.int .i64 nn):=(H2.out w4 HF4.out).cell 2
 have q4:w4.cell? ⟨w.heap.size,4,none⟩=some (.slice A3 ks.length c3):=(H2.out w4 HF4.out).cell 4
 have lq:=(H2.out w4 HF4.out).lt
 have rL:w4.cell? ⟨R,1,none⟩=some (.slice A5 m c5):=HS4.out.rd.cell 1
 have lR:=HS4.out.rd.lt
 have hRB:=HS4.out.lt.1
 have htop:=HS4.out.top
 have HOWN4:Hid (w4.ownsRow B 113 2 (.slice A5 m c5) m (bV (s.ak.map iC))):=Lib.hid (by have:=HS4.out.ak; rw [show (s.put i (m:Int)).ak=s.ak from rfl,← HM.out] at this; exact this)
 go_upto_region 5 with fail
 apply sj (H:=fun gg cap w5=>w5.ownsRow B 113 2 (.slice (some ⟨gg,0,none⟩) (m+1) cap) (m+1) (bV (s.ak.map iC) ++ [.string T,.int .i64 nn])∧((w4.alloc (.cells #[.string T,.int .i64 nn] 113)).drew).grownBy w5 (Value.slice A5 m c5).ownBlock)
 ·intro KEY
  go_region_law ((refine step_append_lies _ (by rfl) _ _ _ (by rfl) B 113 i0 _ 2 24 Tryz.underlying56 hi0' hz0 hz1 hz2 rfl (by omega) (.slice A5 m c5) m (bV (s.ak.map iC)) (by rfl) ((HOWN4.out.alloc _).drew) ⟨w4.heap.size,0,none⟩ 1 1 [.string T,.int .i64 nn] (by rfl) (by rfl) (World.news_of_block (cs:=#[.string T,.int .i64 nn]) (t:=113) (fr:=(0,0)) (heap_alloc_new w4 _)) (by simp [Value.oneCell']) (by omega) (by unfold maxLen; omega) (by omega) (by simp; omega) (w4.heap.size+1) (by simp) ?_; intro gg cap w5 hown5 hgrow hat hlt; have tb:Blk w5 R 119 _:=(hgrow.block R (by simp; omega) (fun e=>by have:=(HOWN4.out.lt R e.symm).1; omega)).trans ((HS4.out.rd.alloc (.cells #[.string T,.int .i64 nn] 113))); have d0:w5.cell? ⟨R,1,none⟩=some (.slice A5 m c5):=tb.cell 1; have d1:=tb.free 1; have HOWN:=Lib.hid hown5; have HGR:=Lib.hid hgrow; clear tb hown5 hgrow hat))
  all_goals exact KEY gg cap w5 ⟨HOWN.out,HGR.out⟩
 rintro gg cap w5 ⟨hown5,hgrow⟩
 have hbx:Below w4.heap.size w4 (w4.alloc (.cells #[.string T,.int .i64 nn] 113)).drew:=((Below.refl _ _).alloc (Nat.le_refl _) _).drew
 have hgo:=StT.DN (HS4.out.below hbx) (t,nn) hgrow (v':=.slice (some ⟨gg,0,none⟩) (m+1) cap) (by
  rw [HTT.out] at hown5
  rw [show (s.put i (m:Int)).ak=s.ak from rfl,← HM.out]
  exact hown5)
 have HS6:=Lib.hid hgo.1
 have HF6:Hid (FrY R OB B wa (w5.setCell ⟨R,1,none⟩ (.slice (some ⟨gg,0,none⟩) (m+1) cap))):=Lib.hid (HF4.out.trans (FrY.trans (.of hbx) hgo.2))
 have HTW:=Lib.hid htw
 clear hgo hbx hown5 hgrow HOWN4 q1 q2 q4 lq rL lR hRB htop htw HS4 HF4
 generalize w5.setCell ⟨R,1,none⟩ (.slice (some ⟨gg,0,none⟩) (m+1) cap)=w6 at *
 have lB:=(H2.out w6 HF6.out).lt
 have lR:=HS6.out.rd.lt
 have HSF:Hid (∀ W,Below w6.heap.size w6 W→W.cell? ⟨R,1,none⟩=some (.slice (some ⟨gg,0,none⟩) (m+1) cap)∧W.cell? ⟨w.heap.size,2,none⟩=some (.int .i64 nn)):=Lib.hid (fun W f=>⟨(HS6.out.rd.below f).cell 1,(H2.out W (HF6.out.trans (.of f))).cell 2⟩)
 have hdr:Below w6.heap.size w6 w6.drew:=(Below.refl _ _).drew
 go_upto_region 6 with fail
 obtain ⟨b1,hb1⟩:∃ b,decide ((16:Int)<((m+1:Nat):Int))=b:=⟨_,rfl⟩
 obtain ⟨b2,hb2⟩:∃ b,decide (nn<1)=b:=⟨_,rfl⟩
 obtain ⟨b3,hb3⟩:∃ b,decide ((4096:Int)<nn)=b:=⟨_,rfl⟩
 have HB:=Lib.hid (And.intro hb1 (And.intro hb2 hb3))
 have hb1':decide ((16:Int)<(m:Int)+1)=b1:=by rw [← hb1]; rfl
 obtain ⟨b12,hb12⟩:∃ b,(b1 || b2)=b:=⟨_,rfl⟩
 obtain ⟨b123,hb123⟩:∃ b,(b12 || b3)=b:=⟨_,rfl⟩
 refine wp_region_held_drew (S:=fun W=>W.cell? ⟨R,1,none⟩=some (.slice (some ⟨gg,0,none⟩) (m+1) cap)∧W.cell? ⟨w.heap.size,2,none⟩=some (.int .i64 nn)) (by kernel_rfl) (HSF.out _ hdr) (fun hS=>?_)
 refine aJ [(0,some 55,.pointer (some ⟨R,0,none⟩)),(1,some 56,.int .i64 i),(2,some 57,.bool tw),(4,some 59,.pointer (some ⟨R,0,none⟩)),(5,some 60,.int .i64 i),(6,some 61,.pointer (some ⟨R,0,none⟩)),(7,some 62,.pointer (some ⟨R,0,none⟩)),(8,some 63,.pointer (some ⟨R,0,none⟩)),(9,some 64,.pointer (some ⟨R,1,none⟩)),(10,some 65,.slice (some ⟨gg,0,none⟩) (m+1) cap),(11,some 66,.int .i64 ((m+1:Nat):Int)),(12,some 67,.bool b1)] 15 (by kernel_rfl) (fun _ _ _ _ _ h=>h) (by kernel_rfl) (by kernel_rfl) hS ?_
 intro F1 hF1
 have f1_0:F1.tmps[0]? = some (.pointer (some ⟨R,0,none⟩)):=by rw [hF1]; kernel_rfl
 have f1_1:F1.tmps[1]? = some (.int .i64 i):=by rw [hF1]; kernel_rfl
 have f1_6:F1.tmps[6]? = some (.bool tw):=by rw [hF1]; kernel_rfl
 have f1_55:F1.tmps[55]? = some (.pointer (some ⟨R,0,none⟩)):=by rw [hF1]; kernel_rfl
 have f1_56:F1.tmps[56]? = some (.int .i64 i):=by rw [hF1]; kernel_rfl
 have f1_57:F1.tmps[57]? = some (.bool tw):=by rw [hF1]; kernel_rfl
 have f1_59:F1.tmps[59]? = some (.pointer (some ⟨R,0,none⟩)):=by rw [hF1]; kernel_rfl
 have f1_60:F1.tmps[60]? = some (.int .i64 i):=by rw [hF1]; kernel_rfl
 have f1_61:F1.tmps[61]? = some (.pointer (some ⟨R,0,none⟩)):=by rw [hF1]; kernel_rfl
 have f1_62:F1.tmps[62]? = some (.pointer (some ⟨R,0,none⟩)):=by rw [hF1]; kernel_rfl
 have f1_63:F1.tmps[63]? = some (.pointer (some ⟨R,0,none⟩)):=by rw [hF1]; kernel_rfl
 have f1_64:F1.tmps[64]? = some (.pointer (some ⟨R,1,none⟩)):=by rw [hF1]; kernel_rfl
 have f1_65:F1.tmps[65]? = some (.slice (some ⟨gg,0,none⟩) (m+1) cap):=by rw [hF1]; kernel_rfl
 have f1_66:F1.tmps[66]? = some (.int .i64 ((m+1:Nat):Int)):=by rw [hF1]; kernel_rfl
 have f1_67:F1.tmps[67]? = some (.bool b1):=by rw [hF1]; kernel_rfl
 have HF1:=Lib.hid hF1
 clear hF1
 refine⟨?_,?_⟩
 ·refine ai.cons _ rfl (Or.inl ⟨by rfl,fun W hW=>by (obtain ⟨hW1,hW2⟩:=hW); go_simp⟩) ?_
  refine ai.cons _ rfl (Or.inl ⟨by rfl,fun W hW=>by (obtain ⟨hW1,hW2⟩:=hW); go_simp⟩) ?_
  refine ai.cons _ rfl (Or.inl ⟨by rfl,fun W hW=>by (obtain ⟨hW1,hW2⟩:=hW); go_simp⟩) ?_
  refine ai.cons _ rfl (Or.inl ⟨by rfl,fun W hW=>by (obtain ⟨hW1,hW2⟩:=hW); go_simp⟩) ?_
  refine ai.cons _ rfl (Or.inl ⟨by rfl,fun W hW=>by (obtain ⟨hW1,hW2⟩:=hW); go_simp⟩) ?_
  refine ai.cons _ rfl (Or.inl ⟨by rfl,fun W hW=>by (obtain ⟨hW1,hW2⟩:=hW); go_simp⟩) ?_
  refine ai.cons _ rfl (Or.inl ⟨by rfl,fun W hW=>by (obtain ⟨hW1,hW2⟩:=hW); go_simp⟩) ?_
  refine ai.cons _ rfl (Or.inl ⟨by rfl,fun W hW=>by (obtain ⟨hW1,hW2⟩:=hW); go_simp⟩) ?_
  refine ai.cons _ rfl (Or.inl ⟨by rfl,fun W hW=>by (obtain ⟨hW1,hW2⟩:=hW); go_simp⟩) ?_
  refine ai.cons _ rfl (Or.inl ⟨by rfl,fun W hW=>by (obtain ⟨hW1,hW2⟩:=hW); go_simp⟩) ?_
  refine ai.cons _ rfl (Or.inl ⟨by rfl,fun W hW=>by (obtain ⟨hW1,hW2⟩:=hW); go_simp⟩) ?_
  refine ai.cons _ rfl (Or.inl ⟨by rfl,fun W hW=>by (obtain ⟨hW1,hW2⟩:=hW); go_simp⟩) ?_
  exact ai.nil
 refine bN 3 (some 58) rfl (by kernel_rfl) (by kernel_rfl) (fun KK hK=>?_)
 go_simp
 have HS7:=Lib.hid (HS6.out.below hdr)
 have HF7:Hid (FrY R OB B wa w6.drew):=Lib.hid (HF6.out.trans (.of hdr))
 refine (mX (HT.out.below (HWA.out.next HF7.out).below) HN.out HS7.out i _ HG.out 151 tw).mono ?_
 rintro e w7 ⟨hb7,hc7⟩
 obtain ⟨u,rfl,hu⟩:∃ u,e=.returned u∧((tw=false∧u=.nilIface)∨(tw=true∧∃ p,u=.iface 121 (.pointer p)∧aF l w7 R OB (some i) 151 u)):=by
  rcases hc7 with ⟨h1,h2⟩ | ⟨h1,p,h2,h3⟩
  ·exact⟨_,h2,Or.inl ⟨h1,rfl⟩⟩
  ·exact⟨_,h2,Or.inr ⟨h1,p,rfl,h3⟩⟩
 have HU:=Lib.hid hu
 clear hc7 hu
 have hb8:=ag hdr hb7
 have HS8:=Lib.hid (HS7.out.below hb7)
 have HF8:Hid (FrY R OB B wa w7):=Lib.hid (HF7.out.trans (.of hb7))
 have hS8:=HSF.out _ hb8
 refine hK.out _ _ hS8 ?_
 clear hK
 clear f1_0 f1_1 f1_6 f1_55 f1_56 f1_57 f1_59 f1_60 f1_61 f1_62 f1_63 f1_64 f1_65 f1_66 f1_67
 obtain ⟨g69,hg69⟩:∃ v:Value,v=(if b1 then undef else .pointer (some ⟨w.heap.size,2,none⟩)):=⟨_,rfl⟩
 obtain ⟨g70,hg70⟩:∃ v:Value,v=(if b1 then undef else .int .i64 nn):=⟨_,rfl⟩
 obtain ⟨g71,hg71⟩:∃ v:Value,v=(if b1 then undef else .bool b2):=⟨_,rfl⟩
 obtain ⟨g74,hg74⟩:∃ v:Value,v=(if b12 then undef else .pointer (some ⟨w.heap.size,2,none⟩)):=⟨_,rfl⟩
 obtain ⟨g75,hg75⟩:∃ v:Value,v=(if b12 then undef else .int .i64 nn):=⟨_,rfl⟩
 obtain ⟨g76,hg76⟩:∃ v:Value,v=(if b12 then undef else .bool b3):=⟨_,rfl⟩
 refine aJ [(13,some 68,.bool b1),(14,some 69,g69),(15,some 70,g70),(16,some 71,g71),(17,some 72,.bool b12),(18,some 73,.bool b12),(19,some 74,g74),(20,some 75,g75),(21,some 76,g76),(22,some 77,.bool b123)] 4 (by kernel_rfl) (fun _ _ _ _ _ h=>h) (by kernel_rfl) (by kernel_rfl) hS8 ?_
 intro F2 hF2
 have f2_5:F2.tmps[5]? = some (.pointer (some ⟨w.heap.size,0,none⟩)):=by rw [hF2,HF1.out]; kernel_rfl
 have f2_67:F2.tmps[67]? = some (.bool b1):=by rw [hF2,HF1.out]; kernel_rfl
 have f2_59:F2.tmps[59]? = some (.pointer (some ⟨R,0,none⟩)):=by rw [hF2,HF1.out]; kernel_rfl
 have f2_60:F2.tmps[60]? = some (.int .i64 i):=by rw [hF2,HF1.out]; kernel_rfl
 have f2_58:F2.tmps[58]? = some (u):=by rw [hF2,HF1.out]; kernel_rfl
 have f2_68:F2.tmps[68]? = some (.bool b1):=by rw [hF2,HF1.out]; kernel_rfl
 have f2_69:F2.tmps[69]? = some (g69):=by rw [hF2,HF1.out]; kernel_rfl
 have f2_70:F2.tmps[70]? = some (g70):=by rw [hF2,HF1.out]; kernel_rfl
 have f2_71:F2.tmps[71]? = some (g71):=by rw [hF2,HF1.out]; kernel_rfl
 have f2_72:F2.tmps[72]? = some (.bool b12):=by rw [hF2,HF1.out]; kernel_rfl
 have f2_73:F2.tmps[73]? = some (.bool b12):=by rw [hF2,HF1.out]; kernel_rfl
 have f2_74:F2.tmps[74]? = some (g74):=by rw [hF2,HF1.out]; kernel_rfl
 have f2_75:F2.tmps[75]? = some (g75):=by rw [hF2,HF1.out]; kernel_rfl
 have f2_76:F2.tmps[76]? = some (g76):=by rw [hF2,HF1.out]; kernel_rfl
 have f2_77:F2.tmps[77]? = some (.bool b123):=by rw [hF2,HF1.out]; kernel_rfl
 have HF2:=Lib.hid hF2
 clear hF2
 refine⟨?_,?_⟩
 ·refine ai.cons _ rfl (Or.inl ⟨by rfl,fun W hW=>by (obtain ⟨hW1,hW2⟩:=hW); go_simp⟩) ?_
  refine ai.guard 13 68 false b1 rfl (by kernel_rfl) (by kernel_rfl) f2_68 (fun e W hW=>by (obtain ⟨hW1,hW2⟩:=hW); go_simp) (fun e=>by rw [hg69]; revert e; cases b1 <;> simp) ?_
  refine ai.guard 13 68 false b1 rfl (by kernel_rfl) (by kernel_rfl) f2_68 (fun e W hW=>by (obtain ⟨hW1,hW2⟩:=hW); go_simp) (fun e=>by rw [hg70]; revert e; cases b1 <;> simp) ?_
  refine ai.guard 13 68 false b1 rfl (by kernel_rfl) (by kernel_rfl) f2_68 (fun e W hW=>by (obtain ⟨hW1,hW2⟩:=hW); go_simp) (fun e=>by rw [hg71]; revert e; cases b1 <;> simp) ?_
  refine ai.cons _ rfl (Or.inl ⟨by rfl,fun W hW=>by (obtain ⟨hW1,hW2⟩:=hW); go_simp; rw [← hb12]; cases b1 <;> rfl⟩) ?_
  refine ai.cons _ rfl (Or.inl ⟨by rfl,fun W hW=>by (obtain ⟨hW1,hW2⟩:=hW); go_simp⟩) ?_
  refine ai.guard 18 73 false b12 rfl (by kernel_rfl) (by kernel_rfl) f2_73 (fun e W hW=>by (obtain ⟨hW1,hW2⟩:=hW); go_simp) (fun e=>by rw [hg74]; revert e; cases b12 <;> simp) ?_
  refine ai.guard 18 73 false b12 rfl (by kernel_rfl) (by kernel_rfl) f2_73 (fun e W hW=>by (obtain ⟨hW1,hW2⟩:=hW); go_simp) (fun e=>by rw [hg75]; revert e; cases b12 <;> simp) ?_
  refine ai.guard 18 73 false b12 rfl (by kernel_rfl) (by kernel_rfl) f2_73 (fun e W hW=>by (obtain ⟨hW1,hW2⟩:=hW); go_simp) (fun e=>by rw [hg76]; revert e; cases b12 <;> simp) ?_
  refine ai.cons _ rfl (Or.inl ⟨by rfl,fun W hW=>by (obtain ⟨hW1,hW2⟩:=hW); go_simp; rw [← hb123]; cases b12 <;> rfl⟩) ?_
  exact ai.nil
 refine bN 23 (some 78) rfl (by kernel_rfl) (by kernel_rfl) (fun KK hK=>?_)
 go_simp
 refine (mX (HT.out.below (HWA.out.next HF8.out).below) HN.out HS8.out i _ HG.out 3 b123).mono ?_
 rintro e w8 ⟨hb9,hc9⟩
 obtain ⟨v,rfl,hv⟩:∃ v,e=.returned v∧((b123=false∧v=.nilIface)∨(b123=true∧∃ p,v=.iface 121 (.pointer p)∧aF l w8 R OB (some i) 3 v)):=by
  rcases hc9 with ⟨h1,h2⟩ | ⟨h1,p,h2,h3⟩
  ·exact⟨_,h2,Or.inl ⟨h1,rfl⟩⟩
  ·exact⟨_,h2,Or.inr ⟨h1,p,rfl,h3⟩⟩
 have HV:=Lib.hid hv
 clear hc9 hv
 have hb10:=ag hb8 hb9
 have HS9:=Lib.hid (HS8.out.below hb9)
 have HF9:Hid (FrY R OB B wa w8):=Lib.hid (HF8.out.trans (.of hb9))
 have hS9:=HSF.out _ hb10
 refine hK.out _ _ hS9 ?_
 clear hK
 clear hg69 hg70 hg71 hg74 hg75 hg76
 clear f2_5 f2_67 f2_59 f2_60 f2_58 f2_68 f2_69 f2_70 f2_71 f2_72 f2_73 f2_74 f2_75 f2_76 f2_77
 have HBB:Hid ((b1 || b2)=b12∧(b12 || b3)=b123):=Lib.hid ⟨hb12,hb123⟩
 clear hb1 hb2 hb3 hb1' hb12 hb123
 have hiu:iO u:=by rcases HU.out with ⟨_,h⟩ | ⟨_,p,h,_⟩; exact Or.inl h; exact Or.inr ⟨p,h⟩
 have hiv:iO v:=by rcases HV.out with ⟨_,h⟩ | ⟨_,p,h,_⟩; exact Or.inl h; exact Or.inr ⟨p,h⟩
 have HIU:=Lib.hid hiu; have HIV:=Lib.hid hiv
 clear hiu hiv
 refine aJ [] 3 (by kernel_rfl) (fun _ _ _ _ _ h=>h) (by kernel_rfl) (by kernel_rfl) hS9 ?_
 intro F3 hF3
 have f3_58:F3.tmps[58]? = some (u):=by rw [hF3,HF2.out,HF1.out]; kernel_rfl
 have f3_78:F3.tmps[78]? = some (v):=by rw [hF3,HF2.out,HF1.out]; kernel_rfl
 have HF3:=Lib.hid hF3
 clear hF3
 refine⟨ai.nil,?_⟩
 refine bN 24 (some 79) rfl (by kernel_rfl) (by kernel_rfl) (fun KK hK=>?_)
 have hW3:Below w8.heap.size w8 (w8.alloc (.cells #[u,v] 108)):=(Below.refl _ _).alloc (Nat.le_refl _) _
 have hS10:=HSF.out _ (ag hb10 hW3)
 have hgo:KK (F3.put (some 79) (.slice (some ⟨w8.heap.size,0,none⟩) 2 2)) (w8.alloc (.cells #[u,v] 108)):=by
  refine hK.out _ _ hS10 ?_
  clear hK
  refine aJ [] 2 (by kernel_rfl) (fun _ _ _ _ _ h=>h) (by kernel_rfl) (by kernel_rfl) hS10 ?_
  intro F4 hF4
  have f4_79:F4.tmps[79]? = some (.slice (some ⟨w8.heap.size,0,none⟩) 2 2):=by rw [hF4,HF3.out,HF2.out,HF1.out]; kernel_rfl
  have HF4:=Lib.hid hF4
  clear hF4
  refine⟨ai.nil,?_⟩
  refine bN 25 (some 80) rfl (by kernel_rfl) (by kernel_rfl) (fun KK hK=>?_)
  go_simp
  refine (ek w8.heap.size 2 u v (w8.alloc (.cells #[u,v] 108)) HIU.out HIV.out ((Blk.new w8 108 #[u,v]).cell 0) ((Blk.new w8 108 #[u,v]).cell 1)).mono ?_
  rintro e w11 ⟨rfl,rfl⟩
  refine hK.out _ _ hS10 ?_
  clear hK
  refine aJ [(26,some 4,bO u v)] 0 (by kernel_rfl) (fun _ _ _ _ _ h=>h) (by kernel_rfl) (by kernel_rfl) hS10 ?_
  intro F5 hF5
  have f5_80:F5.tmps[80]? = some (bO u v):=by rw [hF5,HF4.out,HF3.out,HF2.out,HF1.out]; kernel_rfl
  have f5_4:F5.tmps[4]? = some (bO u v):=by rw [hF5,HF4.out,HF3.out,HF2.out,HF1.out]; kernel_rfl
  have HF5:=Lib.hid hF5
  clear hF5
  refine⟨?_,?_⟩
  ·refine ai.cons _ rfl (Or.inl ⟨by rfl,fun W hW=>by (obtain ⟨hW1,hW2⟩:=hW); go_simp⟩) ?_
   exact ai.nil
  refine wpAnyH_done (by kernel_rfl) ?_ _
  clear f5_80 f5_4
  rw [HF5.out,HF4.out,HF3.out,HF2.out,HF1.out]
  simp only [putD,Act.put,List.setIfInBounds_toArray,List.set_cons_zero,List.set_cons_succ]
  clear HF1 HF2 HF3 HF4 HF5
  have HS10:=HS9.out.below hW3
  have HF10:=HF9.out.trans (.of hW3)
  go_wp2_with fail
  go_ret
  rw [HRS.out]
  refine⟨HFA.out.trans HF10,_,_,_,bO u v,HS10,rfl,rfl,by show (s.ak ++ _).length≤_; rw [List.length_append]; exact Nat.le_refl _,Nat.le_succ _,rfl,?_⟩
  obtain ⟨hb1,hb2,hb3⟩:=HB.out
  obtain ⟨hb12,hb123⟩:=HBB.out
  rcases HU.out with ⟨htw0,rfl⟩ | ⟨htw0,p,rfl,he⟩
  ·have HTW0:decide (0≤s.array t)=false:=HTW.out.trans htw0
   rcases HV.out with ⟨hl0,rfl⟩ | ⟨hl0,p,rfl,he⟩
   ·have HRES:headT i (.mk 2 t nn pp ks) s=.ok { (s.put i (m:Int)) with ak:=s.ak ++ [(t,nn)] }:=by
     have h1:=of_decide_eq_false HTW0; have h2:b1=false∧b2=false∧b3=false:=by revert hb12 hb123 hl0; cases b1 <;> cases b2 <;> cases b3 <;> cases b12 <;> cases b123 <;> simp
     have c1:=of_decide_eq_false (hb1.trans h2.1); have c2:=of_decide_eq_false (hb2.trans h2.2.1); have c3:=of_decide_eq_false (hb3.trans h2.2.2)
     rw [headT,if_pos rfl,if_neg h1,if_neg (by rw [← HM.out]; omega),← HM.out]; rfl
    rw [HRES]
    exact⟨rfl,rfl⟩
   ·have HRES:headT i (.mk 2 t nn pp ks) s=.error (some i,3):=by
     have h1:=of_decide_eq_false HTW0; have h2:b1=true∨b2=true∨b3=true:=by revert hb12 hb123 hl0; cases b1 <;> cases b2 <;> cases b3 <;> cases b12 <;> cases b123 <;> simp
     have h3:16<s.ak.length+1∨nn<1∨4096<nn:=by
      rcases h2 with h2 | h2 | h2
      ·exact Or.inl (by have:=of_decide_eq_true (hb1.trans h2); rw [← HM.out]; omega)
      ·exact Or.inr (Or.inl (by have:=of_decide_eq_true (hb2.trans h2); omega))
      ·exact Or.inr (Or.inr (by have:=of_decide_eq_true (hb3.trans h2); omega))
     rw [headT,if_pos rfl,if_neg h1,if_pos h3]
    rw [HRES]
    exact he.next (B:=B) (.of hW3)
  ·have HRES:headT i (.mk 2 t nn pp ks) s=.error (some i,151):=by
    rw [headT,if_pos rfl,if_pos (of_decide_eq_true (HTW.out.trans htw0))]
   rw [HRES]
   exact (he.next (B:=B) (.of hb9)).next (B:=B) (.of hW3)
 rcases HIU.out with rfl | ⟨p,rfl⟩ <;> rcases HIV.out with rfl | ⟨q,rfl⟩ <;> (go_simp; exact hgo)
theorem Jg (w0:World) (n cc:Nat) (A:Option Addr) (l:List PV) (hT:bg w0 A l) (hn:n=l.length) (R OB B:Nat) (mn:Int) (va vf vs:Value) (s:TS) (i:Nat) (t:List UInt8) (nn:Int) (pp:Nat) (ks:List Item) (w:World) (hat:AtI (gns l) i (.mk 3 t nn pp ks)) (hW:TW w0 w R OB B) (h:StT w R OB B n cc A mn s va vf vs) (hal:s.ak.length≤900000) (hfl:s.fns.length≤900000) (hkl:ks.length≤900000) (htl:t.length≤900000) :
  Calls Tryz.prog 113 #[.pointer (some ⟨R,0,none⟩),.int .i64 i] w (tK R OB B n cc A l mn vs s w (headT i (.mk 3 t nn pp ks) s)):=by
 obtain ⟨⟨a,hgi⟩,hat2⟩:=hat
 obtain ⟨v,hl⟩:=gP hgi
 have hi:i<n:=by rw [hn]; exact (List.getElem?_eq_some_iff.1 hl).1
 obtain ⟨b,o,rfl,x0,x1,x2,x3,x4,A3,c3,hxv0,hc30,hin⟩:=hT.at hl
 have hxv:v=.slice A3 ((offs (i+1) ks).map (fun k:Nat=>(k:Int))).length c3:=hxv0
 clear hxv0 hc30
 rw [List.length_map,aL] at hxv
 subst hxv
 have y0:w.cell? ⟨b,o+i*5,none⟩=some (.int .u8 (3:Nat)):=(hW.below.cell (p:=⟨b,_,none⟩) (aa x0)).trans x0
 have y1:w.cell? ⟨b,o+i*5+1,none⟩=some (.string ⟨t.toArray⟩):=(hW.below.cell (p:=⟨b,_,none⟩) (aa x1)).trans x1
 have y2:w.cell? ⟨b,o+i*5+2,none⟩=some (.int .i64 nn):=(hW.below.cell (p:=⟨b,_,none⟩) (aa x2)).trans x2
 have y3:w.cell? ⟨b,o+i*5+3,none⟩=some (.int .i64 a):=(hW.below.cell (p:=⟨b,_,none⟩) (aa x3)).trans x3
 have y4:w.cell? ⟨b,o+i*5+4,none⟩=some (.slice A3 ks.length c3):=(hW.below.cell (p:=⟨b,_,none⟩) (aa x4)).trans x4
 have lb:=aa y0
 have r0:w.cell? ⟨R,0,none⟩=some (.slice (some ⟨b,o,none⟩) n cc):=h.rd.cell 0
 have lR:=h.rd.lt; have lO:=h.obl.lt
 have hii:(i:Int)<(n:Int):=by omega
 have hi0:(0:Int)≤(i:Int):=by omega
 obtain ⟨T,hTT⟩:∃ T:ByteArray,T=⟨t.toArray⟩:=⟨_,rfl⟩
 have hTd:T.data.toList=t:=by rw [hTT]
 have hTz:T.size=t.length:=by rw [← bB,hTd]
 have HTT:=Lib.hid hTT
 rw [← hTT] at y1
 obtain ⟨i0,hi0',hz0,hz1,hz2⟩:=info_parts zO
 have hb0:Below w.heap.size w (w.alloc (.cells #[.int .u8 (3:Nat),.string T,.int .i64 nn,.int .i64 a,.slice A3 ks.length c3] 43)):=(Below.refl _ _).alloc (Nat.le_refl _) _
 have HBX:Hid (Blk (w.alloc (.cells #[.int .u8 (3:Nat),.string T,.int .i64 nn,.int .i64 a,.slice A3 ks.length c3] 43)) w.heap.size 43 #[.int .u8 (3:Nat),.string T,.int .i64 nn,.int .i64 a,.slice A3 ks.length c3]):=Lib.hid (Blk.new _ _ _)
 have HFA:Hid (FrY R OB B w (w.alloc (.cells #[.int .u8 (3:Nat),.string T,.int .i64 nn,.int .i64 a,.slice A3 ks.length c3] 43))):=Lib.hid (.of hb0)
 obtain ⟨A5,c5,hv5⟩:=bJ h.fns
 subst hv5
 obtain ⟨m,hm⟩:∃ m,m=s.fns.length:=⟨_,rfl⟩
 have hml:m≤900000:=by omega
 rw [← hm] at h
 have HM:=Lib.hid hm
 have HSA:=Lib.hid (h.below hb0)
 have HWA:=Lib.hid (hW.next HFA.out)
 have HRO:Hid (w.heap.size≠R∧w.heap.size≠OB):=Lib.hid ⟨by omega,by omega⟩
 have HT:=Lib.hid hT; have HN:=Lib.hid hn; have HG:=Lib.hid hl; have HTD:=Lib.hid hTd; have HTZ:=Lib.hid hTz
 obtain ⟨res,hres⟩:∃ res,res=headT i (.mk 3 t nn pp ks) s:=⟨_,rfl⟩
 rw [← hres]
 have HRS:=Lib.hid hres
 clear hT hn hl hgi hat2 hTT hTd hTz hin x0 x1 x2 x3 x4 hb0 h hW hres hm
 go_enter Tryz.func113,Tryz.ntmps113
 go_upto_region 2 with fail
 clear y0 y1 y2 y3 y4 lb r0 lR
 generalize w.alloc (.cells #[.int .u8 (3:Nat),.string T,.int .i64 nn,.int .i64 a,.slice A3 ks.length c3] 43)=wa at *
 have H1:=Lib.hid (fun W (f:FrY R OB B wa W)=>f.hi _ _ _ HBX.out HRO.out.1 HRO.out.2 ⟨by decide,by decide,by decide⟩)
 have q0:wa.cell? ⟨w.heap.size,0,none⟩=some (.int .u8 (3:Nat)):=HBX.out.cell 0
 have lq:=HBX.out.lt
 have hlen:i<s.of.length:=by rw [HSA.out.ofn]; exact hi
 have r4:wa.cell? ⟨R,4,none⟩=some (.slice (some ⟨OB,0,none⟩) n n):=HSA.out.rd.cell 4
 have rL:wa.cell? ⟨R,2,none⟩=some (.slice A5 m c5):=HSA.out.rd.cell 2
 have lR:=HSA.out.rd.lt; have lO:=HSA.out.obl.lt
 have ko:wa.cell? ⟨OB,i,none⟩=some (.int .i64 s.of[i]):=by rw [HSA.out.obl.cell i]; simp [hlen]
 have fo:=HSA.out.obl.free i
 go_upto_region 7 with fail
 go_region
 have HS3:=Lib.hid ((HSA.out.put i (m:Int)).below ((Below.refl _ _).drew))
 have HF3:Hid (FrY R OB B wa (wa.setCell ⟨OB,i,none⟩ (.int .i64 (m:Int))).drew):=Lib.hid ((((FrY.refl R OB B wa).xQ i (.int .i64 (m:Int)))).trans (.of (((Below.refl _ (wa.setCell ⟨OB,i,none⟩ (.int .i64 (m:Int)))).drew))))
 clear r4 rL lR lO ko fo q0 lq
 generalize (wa.setCell ⟨OB,i,none⟩ (.int .i64 (m:Int))).drew=w3 at *
 have q1:w3.cell? ⟨w.heap.size,1,none⟩=some (.string T):=(H1.out w3 HF3.out).cell 1
 have lq:=(H1.out w3 HF3.out).lt
 go_wp2_with fail
 refine (kY HS3.out T (by show s.fns.length≤_; omega)).mono ?_
 rw [HTD.out,show (s.put i (m:Int)).function t=s.function t from rfl]
 rintro e w4 ⟨rfl,hb4⟩
 have HS4:=Lib.hid (HS3.out.below hb4)
 have HF4:Hid (FrY R OB B wa w4):=Lib.hid (HF3.out.trans (.of hb4))
 clear hb4 q1 lq HS3 HF3
 obtain ⟨tw,htw⟩:∃ b,decide (0≤s.function t)=b:=⟨_,rfl⟩
 have q1:w4.cell? ⟨w.heap.size,1,none⟩=some (.string T):=(H1.out w4 HF4.out).cell 1
 have q2:w4.cell? ⟨w.heap.size,2,none⟩=some (.int .i64 nn):=(H1.out w4 HF4.out).cell 2
 have q4:w4.cell? ⟨w.heap.size,4,none⟩=some (.slice A3 ks.length c3):=(H1.out w4 HF4.out).cell 4
 have lq:=(H1.out w4 HF4.out).lt
 have rL:w4.cell? ⟨R,2,none⟩=some (.slice A5 m c5):=HS4.out.rd.cell 2
 have lR:=HS4.out.rd.lt
 have hRB:=HS4.out.lt.1
 have htop:=HS4.out.top
 have HOWN4:Hid (w4.ownsRow B 72 4 (.slice A5 m c5) m (bV (s.fns.map fnV))):=Lib.hid (by have:=HS4.out.fns; rw [show (s.put i (m:Int)).fns=s.fns from rfl,← HM.out] at this; exact this)
 go_upto_region 10 with fail
 apply sj (H:=fun gg cap w5=>w5.ownsRow B 72 4 (.slice (some ⟨gg,0,none⟩) (m+1) cap) (m+1) (bV (s.fns.map fnV) ++ [.string T,.int .i64 ((ks.length:Int) - 1),.int .i64 0,.int .i64 (i:Int)])∧((w4.alloc (.cells #[.string T,.int .i64 ((ks.length:Int) - 1),.int .i64 0,.int .i64 (i:Int)] 72)).drew).grownBy w5 (Value.slice A5 m c5).ownBlock)
 ·intro KEY
  go_region_law ((refine step_append_lies _ (by rfl) _ _ _ (by rfl) B 72 i0 _ 4 40 Tryz.underlying57 hi0' hz0 hz1 hz2 rfl (by omega) (.slice A5 m c5) m (bV (s.fns.map fnV)) (by rfl) ((HOWN4.out.alloc _).drew) ⟨w4.heap.size,0,none⟩ 1 1 [.string T,.int .i64 ((ks.length:Int) - 1),.int .i64 0,.int .i64 (i:Int)] (by rfl) (by rfl) (World.news_of_block (cs:=#[.string T,.int .i64 ((ks.length:Int) - 1),.int .i64 0,.int .i64 (i:Int)]) (t:=72) (fr:=(0,0)) (heap_alloc_new w4 _)) (by simp [Value.oneCell']) (by omega) (by unfold maxLen; omega) (by omega) (by simp; omega) (w4.heap.size+1) (by simp) ?_; intro gg cap w5 hown5 hgrow hat hlt; have tb:Blk w5 R 119 _:=(hgrow.block R (by simp; omega) (fun e=>by have:=(HOWN4.out.lt R e.symm).1; omega)).trans ((HS4.out.rd.alloc (.cells #[.string T,.int .i64 ((ks.length:Int) - 1),.int .i64 0,.int .i64 (i:Int)] 72))); have d0:w5.cell? ⟨R,2,none⟩=some (.slice A5 m c5):=tb.cell 2; have d1:=tb.free 2; have HOWN:=Lib.hid hown5; have HGR:=Lib.hid hgrow; clear tb hown5 hgrow hat))
  all_goals exact KEY gg cap w5 ⟨HOWN.out,HGR.out⟩
 rintro gg cap w5 ⟨hown5,hgrow⟩
 have hbx:Below w4.heap.size w4 (w4.alloc (.cells #[.string T,.int .i64 ((ks.length:Int) - 1),.int .i64 0,.int .i64 (i:Int)] 72)).drew:=((Below.refl _ _).alloc (Nat.le_refl _) _).drew
 have hgo:=StT.FW (HS4.out.below hbx) ⟨t,(ks.length:Int) - 1,0,i⟩ hgrow (v':=.slice (some ⟨gg,0,none⟩) (m+1) cap) (by
  rw [HTT.out] at hown5
  rw [show (s.put i (m:Int)).fns=s.fns from rfl,← HM.out]
  exact hown5)
 have HS6:=Lib.hid hgo.1
 have HF6:Hid (FrY R OB B wa (w5.setCell ⟨R,2,none⟩ (.slice (some ⟨gg,0,none⟩) (m+1) cap))):=Lib.hid (HF4.out.trans (FrY.trans (.of hbx) hgo.2))
 have HTW:=Lib.hid htw
 clear hgo hbx hown5 hgrow HOWN4 q1 q2 q4 lq rL lR hRB htop htw HS4 HF4
 generalize w5.setCell ⟨R,2,none⟩ (.slice (some ⟨gg,0,none⟩) (m+1) cap)=w6 at *
 have lB:=(H1.out w6 HF6.out).lt
 have lR:=HS6.out.rd.lt
 have HSF:Hid (∀ W,Below w6.heap.size w6 W→W.cell? ⟨R,2,none⟩=some (.slice (some ⟨gg,0,none⟩) (m+1) cap)∧W.cell? ⟨w.heap.size,1,none⟩=some (.string T)):=Lib.hid (fun W f=>⟨(HS6.out.rd.below f).cell 2,(H1.out W (HF6.out.trans (.of f))).cell 1⟩)
 have hdr:Below w6.heap.size w6 w6.drew:=(Below.refl _ _).drew
 go_upto_region 11 with fail
 obtain ⟨b1,hb1⟩:∃ b,decide ((64:Int)<((m+1:Nat):Int))=b:=⟨_,rfl⟩
 obtain ⟨b2,hb2⟩:∃ b,decide ((6:Int)<(ks.length:Int) - 1)=b:=⟨_,rfl⟩
 obtain ⟨b3,hb3⟩:∃ b,decide ((64:Int)<(T.size:Int))=b:=⟨_,rfl⟩
 have HB:=Lib.hid (And.intro hb1 (And.intro hb2 hb3))
 have hb1':decide ((64:Int)<(m:Int)+1)=b1:=by rw [← hb1]; rfl
 obtain ⟨b12,hb12⟩:∃ b,(b1 || b2)=b:=⟨_,rfl⟩
 obtain ⟨b123,hb123⟩:∃ b,(b12 || b3)=b:=⟨_,rfl⟩
 refine wp_region_held_drew (S:=fun W=>W.cell? ⟨R,2,none⟩=some (.slice (some ⟨gg,0,none⟩) (m+1) cap)∧W.cell? ⟨w.heap.size,1,none⟩=some (.string T)) (by kernel_rfl) (HSF.out _ hdr) (fun hS=>?_)
 refine aJ [(0,some 119,.pointer (some ⟨R,0,none⟩)),(1,some 120,.int .i64 i),(2,some 121,.bool tw),(4,some 123,.pointer (some ⟨R,0,none⟩)),(5,some 124,.int .i64 i),(6,some 125,.pointer (some ⟨R,0,none⟩)),(7,some 126,.pointer (some ⟨R,0,none⟩)),(8,some 127,.pointer (some ⟨R,0,none⟩)),(9,some 128,.pointer (some ⟨R,2,none⟩)),(10,some 129,.slice (some ⟨gg,0,none⟩) (m+1) cap),(11,some 130,.int .i64 ((m+1:Nat):Int)),(12,some 131,.bool b1)] 15 (by kernel_rfl) (fun _ _ _ _ _ h=>h) (by kernel_rfl) (by kernel_rfl) hS ?_
 intro F1 hF1
 have f1_0:F1.tmps[0]? = some (.pointer (some ⟨R,0,none⟩)):=by rw [hF1]; kernel_rfl
 have f1_1:F1.tmps[1]? = some (.int .i64 i):=by rw [hF1]; kernel_rfl
 have f1_7:F1.tmps[7]? = some (.bool tw):=by rw [hF1]; kernel_rfl
 have f1_119:F1.tmps[119]? = some (.pointer (some ⟨R,0,none⟩)):=by rw [hF1]; kernel_rfl
 have f1_120:F1.tmps[120]? = some (.int .i64 i):=by rw [hF1]; kernel_rfl
 have f1_121:F1.tmps[121]? = some (.bool tw):=by rw [hF1]; kernel_rfl
 have f1_123:F1.tmps[123]? = some (.pointer (some ⟨R,0,none⟩)):=by rw [hF1]; kernel_rfl
 have f1_124:F1.tmps[124]? = some (.int .i64 i):=by rw [hF1]; kernel_rfl
 have f1_125:F1.tmps[125]? = some (.pointer (some ⟨R,0,none⟩)):=by rw [hF1]; kernel_rfl
 have f1_126:F1.tmps[126]? = some (.pointer (some ⟨R,0,none⟩)):=by rw [hF1]; kernel_rfl
 have f1_127:F1.tmps[127]? = some (.pointer (some ⟨R,0,none⟩)):=by rw [hF1]; kernel_rfl
 have f1_128:F1.tmps[128]? = some (.pointer (some ⟨R,2,none⟩)):=by rw [hF1]; kernel_rfl
 have f1_129:F1.tmps[129]? = some (.slice (some ⟨gg,0,none⟩) (m+1) cap):=by rw [hF1]; kernel_rfl
 have f1_130:F1.tmps[130]? = some (.int .i64 ((m+1:Nat):Int)):=by rw [hF1]; kernel_rfl
 have f1_131:F1.tmps[131]? = some (.bool b1):=by rw [hF1]; kernel_rfl
 have HF1:=Lib.hid hF1
 clear hF1
 refine⟨?_,?_⟩
 ·refine ai.cons _ rfl (Or.inl ⟨by rfl,fun W hW=>by (obtain ⟨hW1,hW2⟩:=hW); go_simp⟩) ?_
  refine ai.cons _ rfl (Or.inl ⟨by rfl,fun W hW=>by (obtain ⟨hW1,hW2⟩:=hW); go_simp⟩) ?_
  refine ai.cons _ rfl (Or.inl ⟨by rfl,fun W hW=>by (obtain ⟨hW1,hW2⟩:=hW); go_simp⟩) ?_
  refine ai.cons _ rfl (Or.inl ⟨by rfl,fun W hW=>by (obtain ⟨hW1,hW2⟩:=hW); go_simp⟩) ?_
  refine ai.cons _ rfl (Or.inl ⟨by rfl,fun W hW=>by (obtain ⟨hW1,hW2⟩:=hW); go_simp⟩) ?_
  refine ai.cons _ rfl (Or.inl ⟨by rfl,fun W hW=>by (obtain ⟨hW1,hW2⟩:=hW); go_simp⟩) ?_
  refine ai.cons _ rfl (Or.inl ⟨by rfl,fun W hW=>by (obtain ⟨hW1,hW2⟩:=hW); go_simp⟩) ?_
  refine ai.cons _ rfl (Or.inl ⟨by rfl,fun W hW=>by (obtain ⟨hW1,hW2⟩:=hW); go_simp⟩) ?_
  refine ai.cons _ rfl (Or.inl ⟨by rfl,fun W hW=>by (obtain ⟨hW1,hW2⟩:=hW); go_simp⟩) ?_
  refine ai.cons _ rfl (Or.inl ⟨by rfl,fun W hW=>by (obtain ⟨hW1,hW2⟩:=hW); go_simp⟩) ?_
  refine ai.cons _ rfl (Or.inl ⟨by rfl,fun W hW=>by (obtain ⟨hW1,hW2⟩:=hW); go_simp⟩) ?_
  refine ai.cons _ rfl (Or.inl ⟨by rfl,fun W hW=>by (obtain ⟨hW1,hW2⟩:=hW); go_simp⟩) ?_
  exact ai.nil
 refine bN 3 (some 122) rfl (by kernel_rfl) (by kernel_rfl) (fun KK hK=>?_)
 go_simp
 have HS7:=Lib.hid (HS6.out.below hdr)
 have HF7:Hid (FrY R OB B wa w6.drew):=Lib.hid (HF6.out.trans (.of hdr))
 refine (mX (HT.out.below (HWA.out.next HF7.out).below) HN.out HS7.out i _ HG.out 151 tw).mono ?_
 rintro e w7 ⟨hb7,hc7⟩
 obtain ⟨u,rfl,hu⟩:∃ u,e=.returned u∧((tw=false∧u=.nilIface)∨(tw=true∧∃ p,u=.iface 121 (.pointer p)∧aF l w7 R OB (some i) 151 u)):=by
  rcases hc7 with ⟨h1,h2⟩ | ⟨h1,p,h2,h3⟩
  ·exact⟨_,h2,Or.inl ⟨h1,rfl⟩⟩
  ·exact⟨_,h2,Or.inr ⟨h1,p,rfl,h3⟩⟩
 have HU:=Lib.hid hu
 clear hc7 hu
 have hb8:=ag hdr hb7
 have HS8:=Lib.hid (HS7.out.below hb7)
 have HF8:Hid (FrY R OB B wa w7):=Lib.hid (HF7.out.trans (.of hb7))
 have hS8:=HSF.out _ hb8
 refine hK.out _ _ hS8 ?_
 clear hK
 clear f1_0 f1_1 f1_7 f1_119 f1_120 f1_121 f1_123 f1_124 f1_125 f1_126 f1_127 f1_128 f1_129 f1_130 f1_131
 obtain ⟨g133,hg133⟩:∃ v:Value,v=(if b1 then undef else .int .i64 ((ks.length:Int) - 1)):=⟨_,rfl⟩
 obtain ⟨g134,hg134⟩:∃ v:Value,v=(if b1 then undef else .bool b2):=⟨_,rfl⟩
 obtain ⟨g137,hg137⟩:∃ v:Value,v=(if b12 then undef else .pointer (some ⟨w.heap.size,1,none⟩)):=⟨_,rfl⟩
 obtain ⟨g138,hg138⟩:∃ v:Value,v=(if b12 then undef else .string T):=⟨_,rfl⟩
 obtain ⟨g139,hg139⟩:∃ v:Value,v=(if b12 then undef else .int .i64 (T.size:Int)):=⟨_,rfl⟩
 obtain ⟨g140,hg140⟩:∃ v:Value,v=(if b12 then undef else .bool b3):=⟨_,rfl⟩
 refine aJ [(13,some 132,.bool b1),(14,some 133,g133),(15,some 134,g134),(16,some 135,.bool b12),(17,some 136,.bool b12),(18,some 137,g137),(19,some 138,g138),(20,some 139,g139),(21,some 140,g140),(22,some 141,.bool b123)] 4 (by kernel_rfl) (fun _ _ _ _ _ h=>h) (by kernel_rfl) (by kernel_rfl) hS8 ?_
 intro F2 hF2
 have f2_5:F2.tmps[5]? = some (.pointer (some ⟨w.heap.size,0,none⟩)):=by rw [hF2,HF1.out]; kernel_rfl
 have f2_8:F2.tmps[8]? = some (.int .i64 ((ks.length:Int) - 1)):=by rw [hF2,HF1.out]; kernel_rfl
 have f2_131:F2.tmps[131]? = some (.bool b1):=by rw [hF2,HF1.out]; kernel_rfl
 have f2_123:F2.tmps[123]? = some (.pointer (some ⟨R,0,none⟩)):=by rw [hF2,HF1.out]; kernel_rfl
 have f2_124:F2.tmps[124]? = some (.int .i64 i):=by rw [hF2,HF1.out]; kernel_rfl
 have f2_122:F2.tmps[122]? = some (u):=by rw [hF2,HF1.out]; kernel_rfl
 have f2_132:F2.tmps[132]? = some (.bool b1):=by rw [hF2,HF1.out]; kernel_rfl
 have f2_133:F2.tmps[133]? = some (g133):=by rw [hF2,HF1.out]; kernel_rfl
 have f2_134:F2.tmps[134]? = some (g134):=by rw [hF2,HF1.out]; kernel_rfl
 have f2_135:F2.tmps[135]? = some (.bool b12):=by rw [hF2,HF1.out]; kernel_rfl
 have f2_136:F2.tmps[136]? = some (.bool b12):=by rw [hF2,HF1.out]; kernel_rfl
 have f2_137:F2.tmps[137]? = some (g137):=by rw [hF2,HF1.out]; kernel_rfl
 have f2_138:F2.tmps[138]? = some (g138):=by rw [hF2,HF1.out]; kernel_rfl
 have f2_139:F2.tmps[139]? = some (g139):=by rw [hF2,HF1.out]; kernel_rfl
 have f2_140:F2.tmps[140]? = some (g140):=by rw [hF2,HF1.out]; kernel_rfl
 have f2_141:F2.tmps[141]? = some (.bool b123):=by rw [hF2,HF1.out]; kernel_rfl
 have HF2:=Lib.hid hF2
 clear hF2
 refine⟨?_,?_⟩
 ·refine ai.cons _ rfl (Or.inl ⟨by rfl,fun W hW=>by (obtain ⟨hW1,hW2⟩:=hW); go_simp⟩) ?_
  refine ai.guard 13 132 false b1 rfl (by kernel_rfl) (by kernel_rfl) f2_132 (fun e W hW=>by (obtain ⟨hW1,hW2⟩:=hW); go_simp) (fun e=>by rw [hg133]; revert e; cases b1 <;> simp) ?_
  refine ai.guard 13 132 false b1 rfl (by kernel_rfl) (by kernel_rfl) f2_132 (fun e W hW=>by (obtain ⟨hW1,hW2⟩:=hW); go_simp) (fun e=>by rw [hg134]; revert e; cases b1 <;> simp) ?_
  refine ai.cons _ rfl (Or.inl ⟨by rfl,fun W hW=>by (obtain ⟨hW1,hW2⟩:=hW); go_simp; rw [← hb12]; cases b1 <;> rfl⟩) ?_
  refine ai.cons _ rfl (Or.inl ⟨by rfl,fun W hW=>by (obtain ⟨hW1,hW2⟩:=hW); go_simp⟩) ?_
  refine ai.guard 17 136 false b12 rfl (by kernel_rfl) (by kernel_rfl) f2_136 (fun e W hW=>by (obtain ⟨hW1,hW2⟩:=hW); go_simp) (fun e=>by rw [hg137]; revert e; cases b12 <;> simp) ?_
  refine ai.guard 17 136 false b12 rfl (by kernel_rfl) (by kernel_rfl) f2_136 (fun e W hW=>by (obtain ⟨hW1,hW2⟩:=hW); go_simp) (fun e=>by rw [hg138]; revert e; cases b12 <;> simp) ?_
  refine ai.guard 17 136 false b12 rfl (by kernel_rfl) (by kernel_rfl) f2_136 (fun e W hW=>by (obtain ⟨hW1,hW2⟩:=hW); go_simp) (fun e=>by rw [hg139]; revert e; cases b12 <;> simp) ?_
  refine ai.guard 17 136 false b12 rfl (by kernel_rfl) (by kernel_rfl) f2_136 (fun e W hW=>by (obtain ⟨hW1,hW2⟩:=hW); go_simp) (fun e=>by rw [hg140]; revert e; cases b12 <;> simp) ?_
  refine ai.cons _ rfl (Or.inl ⟨by rfl,fun W hW=>by (obtain ⟨hW1,hW2⟩:=hW); go_simp; rw [← hb123]; cases b12 <;> rfl⟩) ?_
  exact ai.nil
 refine bN 23 (some 142) rfl (by kernel_rfl) (by kernel_rfl) (fun KK hK=>?_)
 go_simp
 refine (mX (HT.out.below (HWA.out.next HF8.out).below) HN.out HS8.out i _ HG.out 3 b123).mono ?_
 rintro e w8 ⟨hb9,hc9⟩
 obtain ⟨v,rfl,hv⟩:∃ v,e=.returned v∧((b123=false∧v=.nilIface)∨(b123=true∧∃ p,v=.iface 121 (.pointer p)∧aF l w8 R OB (some i) 3 v)):=by
  rcases hc9 with ⟨h1,h2⟩ | ⟨h1,p,h2,h3⟩
  ·exact⟨_,h2,Or.inl ⟨h1,rfl⟩⟩
  ·exact⟨_,h2,Or.inr ⟨h1,p,rfl,h3⟩⟩
 have HV:=Lib.hid hv
 clear hc9 hv
 have hb10:=ag hb8 hb9
 have HS9:=Lib.hid (HS8.out.below hb9)
 have HF9:Hid (FrY R OB B wa w8):=Lib.hid (HF8.out.trans (.of hb9))
 have hS9:=HSF.out _ hb10
 refine hK.out _ _ hS9 ?_
 clear hK
 clear hg133 hg134 hg137 hg138 hg139 hg140
 clear f2_5 f2_8 f2_131 f2_123 f2_124 f2_122 f2_132 f2_133 f2_134 f2_135 f2_136 f2_137 f2_138 f2_139 f2_140 f2_141
 have HBB:Hid ((b1 || b2)=b12∧(b12 || b3)=b123):=Lib.hid ⟨hb12,hb123⟩
 clear hb1 hb2 hb3 hb1' hb12 hb123
 have hiu:iO u:=by rcases HU.out with ⟨_,h⟩ | ⟨_,p,h,_⟩; exact Or.inl h; exact Or.inr ⟨p,h⟩
 have hiv:iO v:=by rcases HV.out with ⟨_,h⟩ | ⟨_,p,h,_⟩; exact Or.inl h; exact Or.inr ⟨p,h⟩
 have HIU:=Lib.hid hiu; have HIV:=Lib.hid hiv
 clear hiu hiv
 refine aJ [] 3 (by kernel_rfl) (fun _ _ _ _ _ h=>h) (by kernel_rfl) (by kernel_rfl) hS9 ?_
 intro F3 hF3
 have f3_122:F3.tmps[122]? = some (u):=by rw [hF3,HF2.out,HF1.out]; kernel_rfl
 have f3_142:F3.tmps[142]? = some (v):=by rw [hF3,HF2.out,HF1.out]; kernel_rfl
 have HF3:=Lib.hid hF3
 clear hF3
 refine⟨ai.nil,?_⟩
 refine bN 24 (some 143) rfl (by kernel_rfl) (by kernel_rfl) (fun KK hK=>?_)
 have hW3:Below w8.heap.size w8 (w8.alloc (.cells #[u,v] 108)):=(Below.refl _ _).alloc (Nat.le_refl _) _
 have hS10:=HSF.out _ (ag hb10 hW3)
 have hgo:KK (F3.put (some 143) (.slice (some ⟨w8.heap.size,0,none⟩) 2 2)) (w8.alloc (.cells #[u,v] 108)):=by
  refine hK.out _ _ hS10 ?_
  clear hK
  refine aJ [] 2 (by kernel_rfl) (fun _ _ _ _ _ h=>h) (by kernel_rfl) (by kernel_rfl) hS10 ?_
  intro F4 hF4
  have f4_143:F4.tmps[143]? = some (.slice (some ⟨w8.heap.size,0,none⟩) 2 2):=by rw [hF4,HF3.out,HF2.out,HF1.out]; kernel_rfl
  have HF4:=Lib.hid hF4
  clear hF4
  refine⟨ai.nil,?_⟩
  refine bN 25 (some 144) rfl (by kernel_rfl) (by kernel_rfl) (fun KK hK=>?_)
  go_simp
  refine (ek w8.heap.size 2 u v (w8.alloc (.cells #[u,v] 108)) HIU.out HIV.out ((Blk.new w8 108 #[u,v]).cell 0) ((Blk.new w8 108 #[u,v]).cell 1)).mono ?_
  rintro e w11 ⟨rfl,rfl⟩
  refine hK.out _ _ hS10 ?_
  clear hK
  refine aJ [(26,some 4,bO u v)] 0 (by kernel_rfl) (fun _ _ _ _ _ h=>h) (by kernel_rfl) (by kernel_rfl) hS10 ?_
  intro F5 hF5
  have f5_144:F5.tmps[144]? = some (bO u v):=by rw [hF5,HF4.out,HF3.out,HF2.out,HF1.out]; kernel_rfl
  have f5_4:F5.tmps[4]? = some (bO u v):=by rw [hF5,HF4.out,HF3.out,HF2.out,HF1.out]; kernel_rfl
  have HF5:=Lib.hid hF5
  clear hF5
  refine⟨?_,?_⟩
  ·refine ai.cons _ rfl (Or.inl ⟨by rfl,fun W hW=>by (obtain ⟨hW1,hW2⟩:=hW); go_simp⟩) ?_
   exact ai.nil
  refine wpAnyH_done (by kernel_rfl) ?_ _
  clear f5_144 f5_4
  rw [HF5.out,HF4.out,HF3.out,HF2.out,HF1.out]
  simp only [putD,Act.put,List.setIfInBounds_toArray,List.set_cons_zero,List.set_cons_succ]
  clear HF1 HF2 HF3 HF4 HF5
  have HS10:=HS9.out.below hW3
  have HF10:=HF9.out.trans (.of hW3)
  go_wp2_with fail
  go_ret
  rw [HRS.out]
  refine⟨HFA.out.trans HF10,_,_,_,bO u v,HS10,rfl,rfl,Nat.le_succ _,by show (s.fns ++ _).length≤_; rw [List.length_append]; exact Nat.le_refl _,rfl,?_⟩
  obtain ⟨hb1,hb2,hb3⟩:=HB.out
  obtain ⟨hb12,hb123⟩:=HBB.out
  rcases HU.out with ⟨htw0,rfl⟩ | ⟨htw0,p,rfl,he⟩
  ·have HTW0:decide (0≤s.function t)=false:=HTW.out.trans htw0
   rcases HV.out with ⟨hl0,rfl⟩ | ⟨hl0,p,rfl,he⟩
   ·have HRES:headT i (.mk 3 t nn pp ks) s=.ok { (s.put i (m:Int)) with fns:=s.fns ++ [⟨t,(ks.length:Int) - 1,0,i⟩] }:=by
     have h1:=of_decide_eq_false HTW0; have h2:b1=false∧b2=false∧b3=false:=by revert hb12 hb123 hl0; cases b1 <;> cases b2 <;> cases b3 <;> cases b12 <;> cases b123 <;> simp
     have c1:=of_decide_eq_false (hb1.trans h2.1); have c2:=of_decide_eq_false (hb2.trans h2.2.1); have c3:=of_decide_eq_false (hb3.trans h2.2.2)
     have hz:=HTZ.out
     rw [headT,if_neg (by decide),if_neg h1,if_neg (by rw [← HM.out]; omega),← HM.out]; rfl
    rw [HRES]
    exact⟨rfl,rfl⟩
   ·have HRES:headT i (.mk 3 t nn pp ks) s=.error (some i,3):=by
     have h1:=of_decide_eq_false HTW0; have h2:b1=true∨b2=true∨b3=true:=by revert hb12 hb123 hl0; cases b1 <;> cases b2 <;> cases b3 <;> cases b12 <;> cases b123 <;> simp
     have h3:64<s.fns.length+1∨6<(ks.length:Int) - 1∨64<t.length:=by
      rcases h2 with h2 | h2 | h2
      ·exact Or.inl (by have:=of_decide_eq_true (hb1.trans h2); rw [← HM.out]; omega)
      ·exact Or.inr (Or.inl (by have:=of_decide_eq_true (hb2.trans h2); omega))
      ·exact Or.inr (Or.inr (by have:=of_decide_eq_true (hb3.trans h2); have hz:=HTZ.out; omega))
     rw [headT,if_neg (by decide),if_neg h1,if_pos h3]
    rw [HRES]
    exact he.next (B:=B) (.of hW3)
  ·have HRES:headT i (.mk 3 t nn pp ks) s=.error (some i,151):=by
    rw [headT,if_neg (by decide),if_pos (of_decide_eq_true (HTW.out.trans htw0))]
   rw [HRES]
   exact (he.next (B:=B) (.of hb9)).next (B:=B) (.of hW3)
 rcases HIU.out with rfl | ⟨p,rfl⟩ <;> rcases HIV.out with rfl | ⟨q,rfl⟩ <;> (go_simp; exact hgo)
end Go.Proofs.YtkkeocnnecegbaaGreatDoor
