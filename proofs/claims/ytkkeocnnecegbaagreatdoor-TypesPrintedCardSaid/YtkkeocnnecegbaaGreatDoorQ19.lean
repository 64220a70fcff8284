/- Joint text: JD. By an AI agent. -/
import Derived.Test.YtkkeocnnecegbaaGreatDoorQ18
import Derived.Test.YtkkeocnnecegbaaGreatDoorQ01
set_option linter.all false
set_option maxRecDepth 100000
set_option maxHeartbeats 64000000
namespace Go.Proofs.YtkkeocnnecegbaaGreatDoor
open Go.RowKit
theorem Be (A:Option Addr) (c:Nat) (l:List PV) (x:PV) (w:World) (h:bg w A l) (_hl:l.length≤1000000) (hx:eO w x.2 x.1.kids) (hxl:x.1.kids.length≤1000000) (htl:x.1.text.length≤1000000) (hr:∀ k∈x.1.kids,0≤k∧k<(l.length:Int)) :
  Calls Tryz.prog 44 #[.agg #[.slice A l.length c],gq x] w fun e w'=>e=.returned (.bool (okG (gns l) x.1))∧Below w.heap.size w w':=by
 obtain ⟨⟨xk,xt,xn,xa,xs⟩,xv⟩:=x
 change eO w xv xs at hx
 change xs.length≤1000000 at hxl
 change xt.length≤1000000 at htl
 change ∀ k∈xs,0≤k∧k<(l.length:Int) at hr
 obtain ⟨A2,c2,rfl,hc2,hxr⟩:=hx
 have H:=Lib.hid h; have HXR:=Lib.hid hxr; have HR:=Lib.hid hr; have HC2:=Lib.hid hc2
 clear h hxr hr hc2
 obtain ⟨n,hn⟩:∃ n,n=l.length:=⟨_,rfl⟩
 have HN:=Lib.hid hn
 rw [← hn] at _hl ⊢
 clear hn
 have hmm:=fun W=>run_makeMap_plain (P:=Tryz.prog) W 153
 have u1:=Ku
 have u2:=Kh
 have u3:=Ky
 have u4:=Kk
 unfold gq
 simp only
 go_enter Tryz.func44,Tryz.ntmps44
 go_wp2_with fail
 have hB:Blk (((w.alloc (.cells #[.slice A n c] 24)).alloc (.cells #[.int .u8 xk,.string ⟨xt.toArray⟩,.int .i64 xn,.int .i64 xa,.slice A2 xs.length c2] 43)).alloc (.cells #[.int .u8 2,.int .u8 3,.int .u8 4,.int .u8 6,.int .u8 7,.int .u8 8,.int .u8 14,.int .u8 15,.int .u8 16,.int .u8 18,.int .u8 19] 5)) (w.heap.size+1+1) 5 #[.int .u8 2,.int .u8 3,.int .u8 4,.int .u8 6,.int .u8 7,.int .u8 8,.int .u8 14,.int .u8 15,.int .u8 16,.int .u8 18,.int .u8 19]:=by
  have:=Blk.new ((w.alloc (.cells #[.slice A n c] 24)).alloc (.cells #[.int .u8 xk,.string ⟨xt.toArray⟩,.int .i64 xn,.int .i64 xa,.slice A2 xs.length c2] 43)) 5 #[.int .u8 2,.int .u8 3,.int .u8 4,.int .u8 6,.int .u8 7,.int .u8 8,.int .u8 14,.int .u8 15,.int .u8 16,.int .u8 18,.int .u8 19]
  simpa using this
 refine (o8 (w.heap.size+1+1) 0 11 11 yu xk _ (by omega) (fun i hi=>?_)).mono ?_
 ·rw [hB.cell]
  match i,hi with
  | 0,_=>rfl
  | 1,_=>rfl
  | 2,_=>rfl
  | 3,_=>rfl
  | 4,_=>rfl
  | 5,_=>rfl
  | 6,_=>rfl
  | 7,_=>rfl
  | 8,_=>rfl
  | 9,_=>rfl
  | 10,_=>rfl
 rintro e w' ⟨rfl,rfl⟩
 rw [Dt]
 have p1:Blk (((w.alloc (.cells #[.slice A n c] 24)).alloc (.cells #[.int .u8 xk,.string ⟨xt.toArray⟩,.int .i64 xn,.int .i64 xa,.slice A2 xs.length c2] 43)).alloc (.cells #[.int .u8 2,.int .u8 3,.int .u8 4,.int .u8 6,.int .u8 7,.int .u8 8,.int .u8 14,.int .u8 15,.int .u8 16,.int .u8 18,.int .u8 19] 5)) w.heap.size 24 #[.slice A n c]:=((Blk.new w 24 _).alloc _).alloc _
 have p2:Blk (((w.alloc (.cells #[.slice A n c] 24)).alloc (.cells #[.int .u8 xk,.string ⟨xt.toArray⟩,.int .i64 xn,.int .i64 xa,.slice A2 xs.length c2] 43)).alloc (.cells #[.int .u8 2,.int .u8 3,.int .u8 4,.int .u8 6,.int .u8 7,.int .u8 8,.int .u8 14,.int .u8 15,.int .u8 16,.int .u8 18,.int .u8 19] 5)) (w.heap.size+1) 43 #[.int .u8 xk,.string ⟨xt.toArray⟩,.int .i64 xn,.int .i64 xa,.slice A2 xs.length c2]:=by
  have:=(Blk.new (w.alloc (.cells #[.slice A n c] 24)) 43 #[.int .u8 xk,.string ⟨xt.toArray⟩,.int .i64 xn,.int .i64 xa,.slice A2 xs.length c2]).alloc (.cells #[.int .u8 2,.int .u8 3,.int .u8 4,.int .u8 6,.int .u8 7,.int .u8 8,.int .u8 14,.int .u8 15,.int .u8 16,.int .u8 18,.int .u8 19] 5)
  simpa using this
 have hb:Below w.heap.size w (((w.alloc (.cells #[.slice A n c] 24)).alloc (.cells #[.int .u8 xk,.string ⟨xt.toArray⟩,.int .i64 xn,.int .i64 xa,.slice A2 xs.length c2] 43)).alloc (.cells #[.int .u8 2,.int .u8 3,.int .u8 4,.int .u8 6,.int .u8 7,.int .u8 8,.int .u8 14,.int .u8 15,.int .u8 16,.int .u8 18,.int .u8 19] 5)):=(((Below.refl _ _).alloc (Nat.le_refl _) _).alloc (by simp) _).alloc (by simp; omega) _
 generalize (((w.alloc (.cells #[.slice A n c] 24)).alloc (.cells #[.int .u8 xk,.string ⟨xt.toArray⟩,.int .i64 xn,.int .i64 xa,.slice A2 xs.length c2] 43)).alloc (.cells #[.int .u8 2,.int .u8 3,.int .u8 4,.int .u8 6,.int .u8 7,.int .u8 8,.int .u8 14,.int .u8 15,.int .u8 16,.int .u8 18,.int .u8 19] 5))=W1 at *
 clear hB
 obtain ⟨Q,hQ⟩:∃ Q,Q=w.heap.size+1:=⟨_,rfl⟩
 rw [← hQ] at p2 ⊢
 have hP:w.heap.size<Q:=by omega
 generalize hPP:w.heap.size=P at p1 hb hP hQ ⊢
 clear hQ
 have q0:W1.cell? ⟨Q,0,none⟩=some (.int .u8 xk):=p2.cell 0
 have lQ:=aa q0
 have hmap:(W1.alloc (.map (entU 0 dK).toArray 4)).heap[W1.heap.size]? = some (.map (entU 0 dK).toArray 4):=heap_alloc_new W1 _
 have hlk:=Kn (W1.alloc (.map (entU 0 dK).toArray 4)) W1.heap.size dK xk 4 hmap (by decide)
 rw [Ga] at hlk
 have q1:W1.cell? ⟨Q,1,none⟩=some (.string ⟨xt.toArray⟩):=p2.cell 1
 have q2:W1.cell? ⟨Q,2,none⟩=some (.int .i64 xn):=p2.cell 2
 have q3:W1.cell? ⟨Q,3,none⟩=some (.int .i64 xa):=p2.cell 3
 have q4:W1.cell? ⟨Q,4,none⟩=some (.slice A2 xs.length c2):=p2.cell 4
 go_wp2_with fail
 have hB2:Below P w (W1.alloc (.map (entU 0 dK).toArray 4)):=hb.alloc (by have:=hb.size; omega) _
 have P2:=p2.alloc (.map (entU 0 dK).toArray 4)
 have P1:=p1.alloc (.map (entU 0 dK).toArray 4)
 have hlt2:Q<(W1.alloc (.map (entU 0 dK).toArray 4)).heap.size:=P2.lt
 clear q0 q1 q2 q3 q4 hlk hmap p1 p2 u1 u2 u3 u4 hmm
 generalize (W1.alloc (.map (entU 0 dK).toArray 4))=W2 at *
 obtain ⟨i0,hi0,hz0,hz1,hz2⟩:=info_parts info5
 have HT:Hid (P=w.heap.size):=Lib.hid hPP.symm
 clear hPP
 obtain ⟨ks,hks⟩:∃ ks,ks=kE (gns l) ⟨xk,xt,xn,xa,xs⟩:=⟨_,rfl⟩
 have HKS:=Lib.hid hks
 clear hks
 go_loopg [7,22] xs.length (fun gk v7 v22 wr=>∃ i:Nat,i≤xs.length∧xs.length - i≤gk∧v22=.int .i64 i∧Hid (Below W2.heap.size W2 wr)∧Hid (wr.ownsRow W2.heap.size 5 1 v7 i (tL (ks.take i))))
 case atStart=>exact⟨0,Nat.zero_le _,Nat.le_refl _,rfl,Lib.hid (Below.refl _ _),Lib.hid (World.ownsRow_nil _ _ _ _)⟩
 case round =>
  obtain ⟨i,hi,hgk,rfl,HB,HOWN⟩:=hrel
  have HBW:Hid (Below P w wr):=Lib.hid (hB2.trans (HB.out.mono (by have:=hB2.size; have:=HT.out; omega)))
  have R1:Blk wr P 24 #[.slice A n c]:=(HB.out.block P (by omega)).trans P1
  have R2:Blk wr Q 43 #[.int .u8 xk,.string ⟨xt.toArray⟩,.int .i64 xn,.int .i64 xa,  .slice A2 xs.length c2]:=(HB.out.block Q hlt2).trans P2
  have s0:wr.cell? ⟨P,0,none⟩=some (.slice A n c):=R1.cell 0
  have r0:wr.cell? ⟨Q,0,none⟩=some (.int .u8 xk):=R2.cell 0
  have r1:wr.cell? ⟨Q,1,none⟩=some (.string ⟨xt.toArray⟩):=R2.cell 1
  have r2:wr.cell? ⟨Q,2,none⟩=some (.int .i64 xn):=R2.cell 2
  have lP:=R1.lt
  have lQ2:=R2.lt
  by_cases hlt:i<xs.length
  case pos =>
   have hix:=hlt
   have hmem:xs[i]∈xs:=List.getElem_mem hix
   obtain ⟨h0,h1⟩:=HR.out _ hmem
   have hxi:xs[i]? = some xs[i]:=List.getElem?_eq_getElem hix
   generalize xs[i]=k at *
   obtain ⟨kk,rfl⟩:=Int.eq_ofNat_of_zero_le h0
   have hkl:kk<l.length:=by omega
   have hkn2:kk<n:=by rw [HN.out]; exact hkl
   rcases HXR.out.below (HT.out ▸ HBW.out) with h2 | ⟨b3,o3,rfl,h3⟩
   ·exfalso; rw [h2] at hix; simp at hix
   have k3:=h3 i _ hxi
   obtain ⟨y,hy⟩:∃ y,l[kk]? = some y:=⟨_,List.getElem?_eq_getElem hkl⟩
   obtain ⟨b,o,rfl,y0,_,_,_,_,_⟩:=(H.out.below (HT.out ▸ HBW.out)).at hy
   have lb:=aa y0
   have lb3:=aa k3
   have HKI:Hid (ks[i]? = some y.1.kind):=Lib.hid (by
    rw [HKS.out]
    unfold kE
    rw [List.getElem?_map,hxi,Option.map_some]
    simp only [Int.toNat_natCast,jl hy,Option.map_some,Option.getD_some])
   have hsn:ks.take (i+1)=ks.take i ++ [y.1.kind]:=by rw [List.take_add_one,HKI.out]; rfl
   have HSN:=Lib.hid hsn
   have hki:(kk:Int)<(n:Int):=by omega
   have hki0:(0:Int)≤(kk:Int):=by omega
   clear hsn h3 hy hxi hmem h0 h1 hkl hix
   go_wp2_with fail
   refine (zK y.1.kind _).mono ?_; rintro e w' ⟨rfl,rfl⟩
   go_wp2_with (at_builtin; refine wpList_append_own _ rfl _ _ 30 rfl W2.heap.size 5 i0 (.int .u8 0) 1 1 Tryz.underlying30 hi0 hz0 hz1 hz2 rfl (by decide) _ _ _ rfl (HOWN.out.alloc _) ⟨wr.heap.size,0,none⟩ 1 1 [.int .u8 (dB y.1.kind)] rfl rfl (World.news_of_block (cs:=#[.int .u8 (dB y.1.kind)]) (t:=5) (fr:=(0,0)) (heap_alloc_new wr _)) (by simp [Value.oneCell']) (by unfold maxLen; omega) (by omega) ?_ ?_)
   ·have:=HB.out.size; simp; omega
   intro v' w6 hown6 hgrow _
   go_wp2_with fail
   cases gk with
   | zero=>omega
   | succ gk =>
    go_roundg gk
    case measure=>omega
    case rel =>
     refine⟨i+1,by omega,by omega,by simp,Lib.hid ((HB.out.alloc HB.out.size _).grown hgrow (by have:=HB.out.size; simp; omega) (fun q e=>(HOWN.out.lt q e).1)),Lib.hid ?_⟩
     rw [HSN.out,EN]
     exact hown6
  case neg =>
   have hie:i=xs.length:=by omega
   subst hie
   have hkl:ks.length=xs.length:=by rw [HKS.out]; unfold kE; simp
   have hown:=HOWN.out
   rw [List.take_of_length_le (by omega)] at hown
   obtain ⟨A5,c5,rfl⟩:=bJ hown
   rw [← hkl] at hown
   obtain ⟨hbt,hcap⟩:=Ea hown
   have HBT:=Lib.hid hbt
   have HKL:=Lib.hid hkl
   have HO:Hid (okG (gns l) ⟨xk,xt,xn,xa,xs⟩=((gX xt == named xk) && (named xk || xt.isEmpty) && decide (0≤xn) && decide (xn≤bq xk) && (decide (xk<20) || decide (0<xn)) && decide (1≤xk) && decide (xk≤21) && fitsK xk ks)):=Lib.hid (by rw [HKS.out]; rfl)
   clear hown hbt hkl
   go_wp2_with fail
   refine (Aq ⟨xt.toArray⟩ _ (by rw [← bB]; exact htl)).mono ?_
   rintro e w5 ⟨rfl,hb5⟩
   rw [show (⟨xt.toArray⟩:ByteArray).data.toList=xt from rfl,DL]
   have T2:Blk w5 Q 43 #[.int .u8 xk,.string ⟨xt.toArray⟩,.int .i64 xn,.int .i64 xa,.slice A2 xs.length c2]:=(hb5.block Q lQ2).trans R2
   have HB5:Hid (Below P w w5):=Lib.hid (HBW.out.trans (hb5.mono (by have:=HBW.out.size; have:=HT.out; omega)))
   have HBT5:=Lib.hid (HBT.out.below hb5)
   clear r0 r1 r2 s0
   have r0:w5.cell? ⟨Q,0,none⟩=some (.int .u8 xk):=T2.cell 0
   have r1:w5.cell? ⟨Q,1,none⟩=some (.string ⟨xt.toArray⟩):=T2.cell 1
   have r2:w5.cell? ⟨Q,2,none⟩=some (.int .i64 xn):=T2.cell 2
   clear hb5 R1 R2 P1 P2 T2
   generalize gX xt=na at *
   generalize named xk=nb at *
   have hc:(na=false∧nb=true)∨(na=true∧nb=false)∨(na=false∧nb=false∧xt≠[])∨(na=true∧nb=true)∨(na=false∧nb=false∧xt=[]):=by
    cases na <;> cases nb <;> simp
    exact (Classical.em (xt=[])).symm
   rcases hc with ⟨rfl,rfl⟩ | ⟨rfl,rfl⟩ | ⟨rfl,rfl,hx⟩ | ⟨rfl,rfl⟩ | ⟨rfl,rfl,rfl⟩
   ·have HNO:Hid (okG (gns l) ⟨xk,xt,xn,xa,xs⟩=false):=Lib.hid (by rw [HO.out]; rfl)
    clear HO
    go_wp2_with fail
    go_ret
    exact⟨ed HNO.out.symm,HT.out ▸ HB5.out⟩
   ·have HNO:Hid (okG (gns l) ⟨xk,xt,xn,xa,xs⟩=false):=Lib.hid (by rw [HO.out]; rfl)
    clear HO
    go_wp2_with fail
    go_ret
    exact⟨ed HNO.out.symm,HT.out ▸ HB5.out⟩
   ·obtain ⟨z0,zr,rfl⟩:=List.exists_cons_of_ne_nil hx
    have HNO:Hid (okG (gns l) ⟨xk,z0 :: zr,xn,xa,xs⟩=false):=Lib.hid (by rw [HO.out]; rfl)
    clear HO hx
    go_wp2_with fail
    go_ret
    exact⟨ed HNO.out.symm,HT.out ▸ HB5.out⟩
   all_goals
    have HO1:=Lib.hid (HO.out.trans (show _=(decide (0≤xn) && decide (xn≤bq xk) && (decide (xk<20) || decide (0<xn)) && decide (1≤xk) && decide (xk≤21) && fitsK xk ks) from rfl))
    clear HO
    cases h0:decide (0≤xn)
    case false =>
     have HNO:=Lib.hid (HO1.out.trans (by rw [h0]; rfl:_=false))
     clear HO1
     go_wp2_with fail
     go_ret
     exact⟨ed HNO.out.symm,HT.out ▸ HB5.out⟩
    cases hM:decide (xn≤bq xk)
    case false =>
     have HNO:=Lib.hid (HO1.out.trans (by rw [h0,hM]; rfl:_=false))
     clear HO1
     go_wp2_with fail
     go_ret
     exact⟨ed HNO.out.symm,HT.out ▸ HB5.out⟩
    have hz:(¬ (xk:Int)<20∧decide (0<xn)=false)∨(xk:Int)<20∨(¬ (xk:Int)<20∧decide (0<xn)=true):=by
     by_cases h:(xk:Int)<20
     ·exact Or.inr (Or.inl h)
     ·cases h2:decide (0<xn)
      ·exact Or.inl ⟨h,rfl⟩
      ·exact Or.inr (Or.inr ⟨h,rfl⟩)
    rcases hz with ⟨z1,z2⟩ | z1 | ⟨z1,z2⟩
    ·have HNO:=Lib.hid (HO1.out.trans (by rw [h0,hM,decide_eq_false (show ¬ xk<20 by omega),z2]; rfl:_=false))
     clear HO1
     go_wp2_with fail
     go_ret
     exact⟨ed HNO.out.symm,HT.out ▸ HB5.out⟩
    ·have HO2:=Lib.hid (HO1.out.trans (show _=(decide (1≤xk) && decide (xk≤21) && fitsK xk ks) from by rw [h0,hM,decide_eq_true (show xk<20 by omega)]; rfl))
     clear HO1
     by_cases h1:(1:Int)≤(xk:Int)
     case neg =>
      have HNO:=Lib.hid (HO2.out.trans (by rw [decide_eq_false (show ¬ 1≤xk by omega)]; rfl:_=false))
      have h1':¬ 0<xk:=by omega
      clear HO2
      go_wp2_with fail
      go_ret
      exact⟨ed HNO.out.symm,HT.out ▸ HB5.out⟩
     have h21:(xk:Int)≤21:=by omega
     have h21':xk≤21:=by omega
     have h1':0<xk:=by omega
     have HF:=Lib.hid (HO2.out.trans (show _=fitsK xk ks from by rw [decide_eq_true (show 1≤xk by omega),decide_eq_true h21']; rfl))
     clear HO2
     go_wp2_with fail
     have hcall:Calls Tryz.prog 87 #[.int .u8 xk,.slice A5 xs.length c5] w5 fun e w'=>e=.returned (.bool (fitsK xk ks))∧Below w5.heap.size w5 w':=by
      have hh:=yw xk (ks.map eu) A5 c5 w5 HBT5.out (by rw [List.length_map]; exact hcap) (by rw [List.length_map,HKL.out]; exact hxl)
      have e:=rD xk ks
      rw [List.length_map,HKL.out] at hh
      rw [HKL.out] at e
      rw [e] at hh
      exact hh
     refine hcall.mono ?_
     rintro e w6 ⟨rfl,hb6⟩
     have HB6:=Lib.hid (HB5.out.trans (hb6.mono (by have:=HB5.out.size; have:=HT.out; omega)))
     clear hb6 hcall
     go_wp2_with fail
     go_ret
     exact⟨ed HF.out.symm,HT.out ▸ HB6.out⟩
    ·have HO2:=Lib.hid (HO1.out.trans (show _=(decide (1≤xk) && decide (xk≤21) && fitsK xk ks) from by rw [h0,hM,decide_eq_false (show ¬ xk<20 by omega),z2]; rfl))
     clear HO1
     have h1:(1:Int)≤(xk:Int):=by omega
     have h1':0<xk:=by omega
     by_cases h21:(xk:Int)≤21
     case neg =>
      have HNO:=Lib.hid (HO2.out.trans (by rw [decide_eq_true (show 1≤xk by omega),decide_eq_false (show ¬ xk≤21 by omega)]; rfl:_=false))
      have h21':¬ xk≤21:=by omega
      clear HO2
      go_wp2_with fail
      go_ret
      exact⟨ed HNO.out.symm,HT.out ▸ HB5.out⟩
     have h21':xk≤21:=by omega
     have HF:=Lib.hid (HO2.out.trans (show _=fitsK xk ks from by rw [decide_eq_true (show 1≤xk by omega),decide_eq_true h21']; rfl))
     clear HO2
     go_wp2_with fail
     have hcall:Calls Tryz.prog 87 #[.int .u8 xk,.slice A5 xs.length c5] w5 fun e w'=>e=.returned (.bool (fitsK xk ks))∧Below w5.heap.size w5 w':=by
      have hh:=yw xk (ks.map eu) A5 c5 w5 HBT5.out (by rw [List.length_map]; exact hcap) (by rw [List.length_map,HKL.out]; exact hxl)
      have e:=rD xk ks
      rw [List.length_map,HKL.out] at hh
      rw [HKL.out] at e
      rw [e] at hh
      exact hh
     refine hcall.mono ?_
     rintro e w6 ⟨rfl,hb6⟩
     have HB6:=Lib.hid (HB5.out.trans (hb6.mono (by have:=HB5.out.size; have:=HT.out; omega)))
     clear hb6 hcall
     go_wp2_with fail
     go_ret
     exact⟨ed HF.out.symm,HT.out ▸ HB6.out⟩
end Go.Proofs.YtkkeocnnecegbaaGreatDoor
namespace Go.Proofs.YtkkeocnnecegbaaGreatDoor
open Go.RowKit
def bvV (o:Option Nat):Value:=.tuple #[.int .i64 ((o.getD 0:Nat):Int),.bool o.isSome]
def jg (T:List GN) (f:Nat):Nat→Int→Option Nat:=fun (next:Nat) (k:Int)=>if k=(next:Int)∧next<T.length then behindG T f next else none
theorem wE {T:List GN} {f i:Nat} {g:GN} (h:T[i]? = some g):behindG T (f+1) i=g.kids.foldlM (jg T f) (i+1):=by
 rw [behindG,h]; rfl
theorem uq {T:List GN} {f nx:Nat} {k:Int} {r:List Int} (h:jg T f nx k=none):(k :: r).foldlM (jg T f) nx=none:=by
 rw [List.foldlM_cons,h]; rfl
theorem Gg {T:List GN} {f nx n2:Nat} {k:Int} {r:List Int} (h:jg T f nx k=some n2):(k :: r).foldlM (jg T f) nx=r.foldlM (jg T f) n2:=by
 rw [List.foldlM_cons,h]; rfl
theorem Cy (A:Option Addr) (c:Nat) (l:List PV) (hl:l.length≤1000000) (hkl:∀ g∈l,g.1.kids.length≤1000000):∀ (f i:Nat) (w:World),bg w A l→i<l.length→l.length - i≤f →
  Calls Tryz.prog 41 #[.agg #[.slice A l.length c],.int .i64 i] w fun e w'=>e=.returned (bvV (behindG (gns l) f i))∧Below w.heap.size w w':=by
 intro f
 induction f with
 | zero=>intro i w h hi hf; omega
 | succ f ih =>
  intro i w h hi hf
  have IH:=Lib.hid ih
  have HKL:=Lib.hid hkl
  have HF:=Lib.hid hf
  clear ih hkl hf
  obtain ⟨n,hn⟩:∃ n,n=l.length:=⟨_,rfl⟩
  have HN:=Lib.hid hn
  rw [← hn] at hl hi ⊢
  have hil:i<l.length:=by rw [← hn]; exact hi
  clear hn
  obtain ⟨x,hx⟩:∃ x,l[i]? = some x:=⟨_,List.getElem?_eq_getElem hil⟩
  have hfar:Below w.heap.size w (w.alloc (.cells #[.slice A n c] 24)):=(Below.refl _ _).alloc (Nat.le_refl _) _
  have hbx:Blk (w.alloc (.cells #[.slice A n c] 24)) w.heap.size 24 #[.slice A n c]:=Blk.new w 24 _
  have HBX:=Lib.hid hbx
  have HFAR:=Lib.hid hfar
  obtain ⟨b,o,rfl,x0,x1,x2,x3,x4,x5⟩:=(h.below hfar).at hx
  obtain ⟨A3,c3,hxv,hc3,hi3⟩:=x5
  have hkx:=HKL.out x (List.mem_of_getElem? hx)
  obtain ⟨ks,hks⟩:∃ ks,ks=x.1.kids:=⟨_,rfl⟩
  rw [hxv] at x4
  rw [← hks] at x4 hkx hc3 hi3
  have hbg:behindG (gns l) (f+1) i=ks.foldlM (jg (gns l) f) (i+1):=by rw [hks]; exact wE (jl hx)
  have H:=Lib.hid h
  have HI3:=Lib.hid hi3
  have HBG:=Lib.hid hbg
  have lb:=aa x0
  have hi0:(0:Int)≤(i:Int):=by omega
  have hi1:(i:Int)<(n:Int):=by omega
  clear h hi3 hxv hks hx hbg hbx hfar hil x0 x1 x2 x3
  go_enter Tryz.func41,Tryz.ntmps41
  go_wp2_with fail
  go_loopg [6,19] ks.length (fun gk v6 v19 wr=>∃ j nx:Nat,j≤ks.length∧ks.length - j≤gk∧v6=.int .i64 (nx:Int)∧v19=.int .i64 j∧i<nx∧Hid (Below (w.heap.size+1) (w.alloc (.cells #[.slice (some ⟨b,o,none⟩) n c] 24)) wr)∧Hid ((ks.drop j).foldlM (jg (gns l) f) nx=behindG (gns l) (f+1) i))
  case atStart=>exact⟨0,i+1,Nat.zero_le _,Nat.le_refl _,by go_num,rfl,by omega,Lib.hid (by have:=Below.refl (w.alloc (.cells #[.slice (some ⟨b,o,none⟩) n c] 24)).heap.size (w.alloc (.cells #[.slice (some ⟨b,o,none⟩) n c] 24)); simpa using this),Lib.hid HBG.out.symm⟩
  case round =>
   obtain ⟨j,nx,hj,hgk,rfl,rfl,hnx,HB,HFO⟩:=hrel
   have hsz:w.heap.size+1≤wr.heap.size:=by have:=HB.out.size; simpa using this
   have HBW:Hid (Below w.heap.size w wr):=Lib.hid (HFAR.out.trans (HB.out.mono (by omega)))
   have R1:Blk wr w.heap.size 24 #[.slice (some ⟨b,o,none⟩) n c]:=(HB.out.block _ (by omega)).trans HBX.out
   have s0:wr.cell? ⟨w.heap.size,0,none⟩=some (.slice (some ⟨b,o,none⟩) n c):=R1.cell 0
   have lP:=R1.lt
   clear R1
   by_cases hlt:j<ks.length
   case neg =>
    have hie:j=ks.length:=by omega
    subst hie
    have HR:Hid (behindG (gns l) (f+1) i=some nx):=Lib.hid (by rw [← HFO.out,List.drop_length]; rfl)
    go_wp2_with fail
    go_ret2
    refine⟨?_,HBW.out⟩
    rw [HR.out]; rfl
   case pos =>
    rcases HI3.out with h2 | ⟨b3,o3,rfl,h3⟩
    ·exfalso; rw [h2] at hlt; simp at hlt
    have hkj:ks[j]? = some ks[j]:=List.getElem?_eq_getElem hlt
    have hd:ks.drop j=ks[j] :: ks.drop (j+1):=List.drop_eq_getElem_cons hlt
    have k3':=h3 j _ hkj
    have lb3:=aa k3'
    have k3:wr.cell? ⟨b3,o3+j,none⟩=some (.int .i64 ks[j]):=by
     rw [← k3']
     exact HB.out.cell (p:=⟨b3,_,none⟩) (by simpa using lb3)
    have lb3':=aa k3
    have HFO':=HFO.out
    rw [hd] at HFO'
    have HD:=Lib.hid HFO'
    clear HFO' HFO h3 hd k3' lb3 hkj
    generalize ks[j]=k at *
    by_cases hkn:k=(nx:Int)
    case neg =>
     have e1:(k != (nx:Int))=true:=by simpa using hkn
     have HR:Hid (behindG (gns l) (f+1) i=none):=Lib.hid (by rw [← HD.out]; exact uq (by unfold jg; rw [if_neg (fun hh=>hkn hh.1)]))
     clear hkn
     go_wp2_with fail
     go_ret2
     refine⟨?_,HBW.out⟩
     rw [HR.out]; rfl
    case pos =>
     subst hkn
     have e1:(((nx:Nat):Int) != ((nx:Nat):Int))=false:=by simp
     by_cases hnn:nx<n
     case neg =>
      have e2:decide (n≤nx)=true:=decide_eq_true (by omega)
      have HR:Hid (behindG (gns l) (f+1) i=none):=Lib.hid (by rw [← HD.out]; exact uq (by unfold jg; rw [if_neg (fun hh=>hnn (by have:=hh.2; rw [dA,← HN.out] at this; exact this))]))
      clear hnn
      go_wp2_with fail
      go_ret2
      refine⟨?_,HBW.out⟩
      rw [HR.out]; rfl
     case pos =>
      have e2:decide (n≤nx)=false:=decide_eq_false (by omega)
      have HST:Hid (jg (gns l) f nx ((nx:Nat):Int)=behindG (gns l) f nx):=Lib.hid (by unfold jg; rw [if_pos ⟨rfl,by rw [dA,← HN.out]; exact hnn⟩])
      go_wp2_with fail
      have hcall:=IH.out nx wr (H.out.below HBW.out) (by rw [← HN.out]; exact hnn) (by have:=HF.out; omega)
      rw [← HN.out] at hcall
      refine hcall.mono ?_
      rintro e w1 ⟨rfl,hb1⟩
      have HB1:=Lib.hid (HBW.out.trans (hb1.mono (by omega)))
      cases ho:behindG (gns l) f nx with
      | none =>
       have HR:Hid (behindG (gns l) (f+1) i=none):=Lib.hid (by rw [← HD.out]; exact uq (HST.out.trans ho))
       clear ho hcall
       unfold bvV
       simp only [Option.getD_none,Option.isSome_none]
       go_wp2_with fail
       go_ret2
       refine⟨?_,HB1.out⟩
       rw [HR.out]; rfl
      | some n2 =>
       have HD2:Hid ((ks.drop (j+1)).foldlM (jg (gns l) f) n2=behindG (gns l) (f+1) i):=Lib.hid (by rw [← HD.out,Gg (HST.out.trans ho)])
       have hn2:i<n2:=by
        obtain ⟨y,_,hy⟩:=ni f nx n2 ho
        omega
       have HB2:=Lib.hid (HB.out.trans (hb1.mono (by omega)))
       clear ho hcall hb1
       unfold bvV
       simp only [Option.getD_some,Option.isSome_some]
       go_wp2_with fail
       cases gk with
       | zero=>omega
       | succ gk =>
        go_roundg gk
        case measure=>omega
        case rel=>exact⟨j+1,n2,by omega,by omega,rfl,by simp,hn2,HB2,HD2⟩
end Go.Proofs.YtkkeocnnecegbaaGreatDoor
namespace Go.Proofs.YtkkeocnnecegbaaGreatDoor
open Go.RowKit
theorem xO (P:Nat) (A:Option Addr) (c:Nat) (l:List PV) (x:PV) (w:World) (h:bg w A l) (hp:Blk w P 24 #[.slice A l.length c]) (hl:l.length≤1000000) (hx:eO w x.2 x.1.kids) (hxl:x.1.kids.length≤1000000) (htl:x.1.text.length≤1000000) (hr:∀ k∈x.1.kids,0≤k∧k<(l.length:Int)) :
  Calls Tryz.prog 43 #[gq x,.pointer (some ⟨P,0,none⟩)] w fun e w'=>e=.returned (.bool (!okG (gns l) x.1))∧Below w.heap.size w w':=by
 obtain ⟨A3,c3,hxv,hc3,hi3⟩:=hx
 have hnv:gq x=.agg #[.int .u8 x.1.kind,.string ⟨x.1.text.toArray⟩,.int .i64 x.1.n,.int .i64 x.1.at',.slice A3 x.1.kids.length c3]:=by unfold gq; rw [hxv]
 have far:Below w.heap.size w (w.alloc (.cells #[.int .u8 x.1.kind,.string ⟨x.1.text.toArray⟩,.int .i64 x.1.n,.int .i64 x.1.at',.slice A3 x.1.kids.length c3] 43)):=(Below.refl _ _).alloc (Nat.le_refl _) _
 have p0:w.cell? ⟨P,0,none⟩=some (.slice A l.length c):=hp.cell 0
 have lP:=hp.lt
 have HC:=Lib.hid (Be A c l x _ (h.below far) hl ⟨A3,c3,hxv,hc3,hi3.below far⟩ hxl htl hr)
 rw [hnv] at HC ⊢
 have FAR:=Lib.hid far
 clear far h hp hi3 hr hxv hnv
 generalize okG (gns l) x.1=ok at *
 go_enter Tryz.func43,Tryz.ntmps43
 go_wp2_with fail
 refine HC.out.mono ?_
 rintro e w1 ⟨rfl,hb⟩
 have HB:=Lib.hid (FAR.out.trans (hb.mono (by simp)))
 clear hb
 go_wp2_with fail
 go_ret
 exact⟨rfl,HB.out⟩
theorem IC (a p:Value) (W:World):(callFunc 43 #[a,p]).run Tryz.prog W=.ok (.enter 43 #[a,p]) W:=by kernel_rfl
theorem Ay (P:Nat) (A:Option Addr) (c:Nat) (l:List PV) (w:World) (h:bg w A l) (hp:Blk w P 24 #[.slice A l.length c]) (hl:l.length≤1000000) (hkl:∀ g∈l,g.1.kids.length≤1000000∧g.1.text.length≤1000000∧∀ k∈g.1.kids,0≤k∧k<(l.length:Int)) :
  Calls Tryz.prog 84 #[.slice A l.length c,.func (.func 43) #[] #[.pointer (some ⟨P,0,none⟩)]] w fun e w'=>(∃ r:Int,e=.returned (.int .i64 r)∧(0≤r↔¬ ∀ g∈gns l,okG (gns l) g=true))∧Below w.heap.size w w':=by
 have H:=Lib.hid h; have HP:=Lib.hid hp; have HKL:=Lib.hid hkl
 clear h hp hkl
 have e43:=fun a W=>IC a (.pointer (some ⟨P,0,none⟩)) W
 obtain ⟨n,hn⟩:∃ n,n=l.length:=⟨_,rfl⟩
 have HN:=Lib.hid hn
 rw [← hn] at hl ⊢
 clear hn
 go_enter Tryz.func84,Tryz.ntmps84
 go_wp2_with fail
 have e5:(Tryz.prog.info? 43).map (fun i=>(i.zero,i.size,i.bytes))=some (some (.agg #[.int .u8 0,.string ⟨#[]⟩,.int .i64 0,.int .i64 0,.slice none 0 0]),5,64):=su
 go_loopg [8] n (fun gk v wr=>∃ i:Nat,i≤n∧n - i≤gk∧v=.int .i64 i∧Hid (Below w.heap.size w wr)∧Hid (∀ g∈(gns l).take i,okG (gns l) g=true))
 case atStart=>exact⟨0,Nat.zero_le _,Nat.le_refl _,rfl,Lib.hid (Below.refl _ _),Lib.hid (fun g hg=>by simp at hg)⟩
 case round =>
  obtain ⟨i,hi,hgk,rfl,HB,HS⟩:=hrel
  by_cases hlt:i<n
  case neg =>
   have hieq:i=n:=by omega
   subst hieq
   have HALL:Hid (∀ g∈gns l,okG (gns l) g=true):=Lib.hid (fun g hg=>HS.out g (by rw [List.take_of_length_le (by rw [dA]; exact Nat.le_of_eq HN.out.symm)]; exact hg))
   go_wp2_with fail
   go_ret
   exact⟨⟨-1,rfl,fun h=>by omega,fun h=>absurd HALL.out h⟩,HB.out⟩
  case pos =>
   have hil:i<l.length:=by rw [← HN.out]; exact hlt
   obtain ⟨x,hx⟩:∃ x,l[i]? = some x:=⟨_,List.getElem?_eq_getElem hil⟩
   obtain ⟨b,o,rfl,x0,x1,x2,x3,x4,x5⟩:=(H.out.below HB.out).at hx
   have lb:=aa x0
   have hf:=HKL.out x (List.mem_of_getElem? hx)
   have hcall:=xO P (some ⟨b,o,none⟩) c l x wr (H.out.below HB.out) ((HB.out.block P HP.out.lt).trans HP.out) (by rw [← HN.out]; exact hl) x5 hf.1 hf.2.1 hf.2.2
   obtain ⟨A3,c3,hxv,hc3,hi3⟩:=x5
   have hnv:gq x=.agg #[.int .u8 x.1.kind,.string ⟨x.1.text.toArray⟩,.int .i64 x.1.n,.int .i64 x.1.at',.slice A3 x.1.kids.length c3]:=by unfold gq; rw [hxv]
   rw [hnv] at hcall
   rw [hxv] at x4
   have HC:=Lib.hid hcall
   have HX:=Lib.hid (jl hx)
   clear hi3 hc3 hx hxv hnv hf hcall hil
   have hii:(i:Int)<(n:Int):=by omega
   go_wp2_with fail
   refine HC.out.mono ?_
   rintro e w1 ⟨rfl,hb1⟩
   have HB1:=Lib.hid (HB.out.trans (hb1.mono (by have:=HB.out.size; omega)))
   clear hb1
   cases hok:okG (gns l) x.1
   case false =>
    have HNO:Hid (¬ ∀ g∈gns l,okG (gns l) g=true):=Lib.hid (fun hall=>by have:=hall _ (List.mem_of_getElem? HX.out); rw [hok] at this; cases this)
    clear hok
    simp only [Bool.not_false]
    go_wp2_with fail
    go_ret
    exact⟨⟨(i:Int),rfl,fun _=>HNO.out,fun _=>by omega⟩,HB1.out⟩
   case true =>
    have HS2:Hid (∀ g∈(gns l).take (i+1),okG (gns l) g=true):=Lib.hid (fun g hg=>by
     rw [List.take_add_one,HX.out] at hg
     rcases List.mem_append.1 hg with hg | hg
     ·exact HS.out g hg
     ·simp at hg; subst hg; exact hok)
    clear hok
    simp only [Bool.not_true]
    go_wp2_with fail
    cases gk with
    | zero=>omega
    | succ gk =>
     go_roundg gk
     case measure=>omega
     case rel=>exact⟨i+1,by omega,by omega,by simp,HB1,HS2⟩
theorem vX (P:Nat) (A:Option Addr) (c:Nat) (l:List PV) (w:World) (h:bg w A l) (hp:Blk w P 24 #[.slice A l.length c]) (hl:l.length≤1000000) (hkl:∀ g∈l,g.1.kids.length≤1000000∧g.1.text.length≤1000000∧∀ k∈g.1.kids,0≤k∧k<(l.length:Int)) :
  Calls Tryz.prog 42 #[.slice A l.length c,.func (.func 43) #[] #[.pointer (some ⟨P,0,none⟩)]] w fun e w'=>(∃ b:Bool,e=.returned (.bool b)∧(b=false↔∀ g∈gns l,okG (gns l) g=true))∧Below w.heap.size w w':=by
 have HC:=Lib.hid (Ay P A c l w h hp hl hkl)
 clear h hp hkl
 go_enter Tryz.func42,Tryz.ntmps42
 go_wp2_with fail
 refine HC.out.mono ?_
 rintro e w1 ⟨⟨r,rfl,hr⟩,hb⟩
 have HR:=Lib.hid hr; have HB:=Lib.hid hb
 clear hr hb
 cases h0:decide (0≤r)
 case false =>
  go_wp2_with fail
  go_ret
  exact⟨⟨false,rfl,fun _=>Classical.byContradiction (fun hh=>(of_decide_eq_false h0) (HR.out.2 hh)),fun _=>rfl⟩,HB.out⟩
 case true =>
  go_wp2_with fail
  go_ret
  exact⟨⟨true,rfl,fun h=>(by cases h),fun h=>absurd h (HR.out.1 (of_decide_eq_true h0))⟩,HB.out⟩
end Go.Proofs.YtkkeocnnecegbaaGreatDoor
namespace Go.Proofs.YtkkeocnnecegbaaGreatDoor
open Go.RowKit
def rowOf (w:World) (R:Nat):Option Nat:=(w.cell? ⟨R,1,none⟩).bind (·.ownBlock)
structure FrW (B R:Nat) (w w':World):Prop where
 os:w'.os=w.os
 tape:w'.tape=w.tape
 output:w'.output=w.output
 size:w.heap.size≤w'.heap.size
 block:∀ j,j<w.heap.size→j≠R→(j<B∨(∀ cs fr,w.heap[j]?≠some (.cells cs 9 fr))∨(R<w.heap.size∧rowOf w R≠some j))→w'.heap[j]? = w.heap[j]?
 row:R<w.heap.size→∀ q,rowOf w' R=some q→rowOf w R=some q∨w.heap.size≤q
theorem FrW.refl (B R:Nat) (w:World):FrW B R w w:=⟨rfl,rfl,rfl,Nat.le_refl _,fun _ _ _ _=>rfl,fun _ _ h=>Or.inl h⟩
theorem FrW.still {B R:Nat} {a b:World} (h:FrW B R a b) {j:Nat} (hj:j<a.heap.size) (hn:R<a.heap.size∧rowOf a R≠some j):R<b.heap.size∧rowOf b R≠some j :=
 ⟨by have:=h.size; omega,fun e=>by rcases h.row hn.1 j e with h | h; exact hn.2 h; omega⟩
theorem FrW.trans {B R:Nat} {a b c:World} (h:FrW B R a b) (k:FrW B R b c):FrW B R a c :=
 ⟨k.os.trans h.os,k.tape.trans h.tape,k.output.trans h.output,Nat.le_trans h.size k.size,fun j hj hr hn =>
  (k.block j (by have:=h.size; omega) hr (by
   rcases hn with hn | hn | hn
   ·exact Or.inl hn
   ·exact Or.inr (Or.inl (fun cs fr=>by rw [h.block j hj hr (Or.inr (Or.inl hn))]; exact hn cs fr))
   ·exact Or.inr (Or.inr (h.still hj hn)))).trans (h.block j hj hr hn),fun hR q e=>by
  rcases k.row (by have:=h.size; omega) q e with e | e
  ·exact h.row hR q e
  ·exact Or.inr (by have:=h.size; omega)⟩
theorem FrW.of {B R:Nat} {a b:World} (h:Below a.heap.size a b):FrW B R a b:=⟨h.os,h.tape,h.output,h.size,fun j hj _ _=>h.block j hj,fun hR q e=>Or.inl (by
 unfold rowOf at e ⊢
 rw [h.cell (p:=⟨R,1,none⟩) hR] at e
 exact e)⟩
theorem FrW.alloc {B R:Nat} {a b:World} (h:FrW B R a b) (o:Obj):FrW B R a (b.alloc o):=h.trans (.of ((Below.refl _ _).alloc (Nat.le_refl _) _))
theorem FrW.below {B R C:Nat} {a b:World} (h:FrW B R a b) (hC:C≤R) (hB:C≤B) (hs:C≤a.heap.size):Below C a b :=
 ⟨h.os,h.tape,h.output,h.size,fun j hj=>h.block j (by omega) (by omega) (Or.inl (by omega))⟩
theorem FrW.blk {B R X T:Nat} {a b:World} {cs:Array Value} (h:FrW B R a b) (hx:Blk a X T cs) (hR:X≠R) (hT:T≠9):Blk b X T cs :=
 (h.block X hx.lt hR (Or.inr (Or.inl (fun cs' fr e=>by rw [show a.heap[X]? = _ from hx] at e; injection e with e; injection e with _ e _; exact hT e)))).trans hx
theorem FrW.keep {B R X T:Nat} {a b:World} {cs:Array Value} (h:FrW B R a b) (hx:Blk a X T cs) (hR:X≠R) (hn:R<a.heap.size∧rowOf a R≠some X):Blk b X T cs∧(R<b.heap.size∧rowOf b R≠some X) :=
 ⟨(h.block X hx.lt hR (Or.inr (Or.inr hn))).trans hx,h.still hx.lt hn⟩
structure WrS (w:World) (R B:Nat) (A:Option Addr) (n c:Nat) (L:List (List UInt8)):Prop where
 lt:R<B
 top:B≤w.heap.size
 ex:∃ v,Blk w R 151 #[.slice A n c,v]∧w.ownsRow B 9 1 v L.length (fA L)
theorem WrS.below {w w':World} {R B:Nat} {A:Option Addr} {n c:Nat} {L:List (List UInt8)} (h:WrS w R B A n c L) (hb:Below w.heap.size w w'):WrS w' R B A n c L:=by
 obtain ⟨h1,h2,v,h3,h4⟩:=h
 exact⟨h1,Nat.le_trans h2 hb.size,v,(hb.block R h3.lt).trans h3,dG h4 (fun q e=>hb.block q (h4.lt q e).2)⟩
theorem WrS.alloc {w:World} {R B:Nat} {A:Option Addr} {n c:Nat} {L:List (List UInt8)} (h:WrS w R B A n c L) (o:Obj):WrS (w.alloc o) R B A n c L:=h.below ((Below.refl _ _).alloc (Nat.le_refl _) _)
theorem WrS.cell {w:World} {R B:Nat} {A:Option Addr} {n c:Nat} {L:List (List UInt8)} (h:WrS w R B A n c L):w.cell? ⟨R,0,none⟩=some (.slice A n c):=by
 obtain ⟨_,_,v,h3,_⟩:=h
 exact h3.cell 0
theorem WrS.fresh {w:World} {R B:Nat} {A:Option Addr} {n c:Nat} {L:List (List UInt8)} (h:WrS w R B A n c L) (o:Obj):R<(w.alloc o).heap.size∧rowOf (w.alloc o) R≠some w.heap.size:=by
 obtain ⟨h1,h2,v,h3,h4⟩:=h
 refine⟨by have:=h3.lt; simp; omega,fun e=>?_⟩
 have h5:(w.alloc o).cell? ⟨R,1,none⟩=some v:=(h3.alloc o).cell 1
 unfold rowOf at e
 rw [h5] at e
 have:=(h4.lt _ e).2
 omega
theorem Gh (a b:List (List UInt8)):fA (a ++ b)=fA a ++ fA b:=by simp [fA]
theorem xN (ps:List (List UInt8)):∀ u∈fA ps,u.oneCell'=true:=by
 intro u hu
 simp only [fA,List.mem_map] at hu
 obtain ⟨p,_,rfl⟩:=hu
 rfl
theorem uY {w:World} {K:Nat} {cs:List Value} (h:Blk w K 9 cs.toArray):∀ j u,cs[j]? = some u→w.cell? ((⟨K,0,none⟩:Addr).add j)=some u:=by
 intro j u hu
 have hadd:(⟨K,0,none⟩:Addr).add j=⟨K,j,none⟩:=by unfold Addr.add; split <;> simp_all
 rw [hadd,h.cell j]; simpa using hu
def nk (w:World) (R B:Nat) (A:Option Addr) (n c:Nat) (L:List (List UInt8)) (e:Ending) (w':World):Prop:=e=.returned (.tuple #[])∧WrS w' R B A n c L∧FrW B R w w'
theorem xu {W:World} {X:Nat} {c0 v:Value} (h:Blk W X 151 #[c0,v]) (u:Value):Blk (W.setCell ⟨X,1,none⟩ u) X 151 #[c0,u]:=h.put 1 u
theorem yz (R B _K m n c:Nat) (A:Option Addr) (L ext:List (List UInt8)) (w w1:World) (g cap:Nat) (v:Value) (h:WrS w R B A n c L) (ho:w.ownsRow B 9 1 v L.length (fA L)) (hown:w1.ownsRow B 9 1 (.slice (some ⟨g,0,none⟩) (L.length+m) cap) (L.length+m) (fA L ++ fA ext)) (hX:Blk w1 R 151 #[.slice A n c,v]) (hv0:w.cell? ⟨R,1,none⟩=some v) (hgrow:w.grownBy w1 v.ownBlock) (hat:v.ownBlock=some g∨g=w.heap.size∨w.heap.size≤g) (hm:ext.length=m) :
  nk w R B A n c (L ++ ext) (.returned (.tuple #[])) (w1.setCell ⟨R,1,none⟩ (.slice (some ⟨g,0,none⟩) (L.length+m) cap)):=by
 have hlt:=h.lt
 have htop:=h.top
 have hg:=(hown.lt g rfl).1
 refine⟨rfl,⟨h.lt,by have:=hgrow.size; simp [World.setCell]; omega,.slice (some ⟨g,0,none⟩) (L.length+m) cap,xu hX _,?_⟩,⟨hgrow.os,hgrow.tape,hgrow.output,by have:=hgrow.size; simpa [World.setCell] using this,fun j hj hr hn=>?_,fun _ q e=>?_⟩⟩
 ·rw [List.length_append,hm,Gh]
  exact dG hown (fun q e=>Below.heap_setCell _ _ _ _ (by
   have hq:g=q:=Option.some.inj (show some g=some q from e)
   show q≠R; omega))
 ·rw [Below.heap_setCell _ _ _ _ hr]
  refine hgrow.block j hj (fun e=>?_)
  rcases hn with hn | hn | hn
  ·have:=(ho.lt j e.symm).1; omega
  ·obtain ⟨cs,hcs⟩:=jy ho e.symm
   exact hn cs _ hcs
  ·refine hn.2 ?_
   unfold rowOf
   rw [hv0]
   exact e.symm
 ·have h5:(w1.setCell ⟨R,1,none⟩ (.slice (some ⟨g,0,none⟩) (L.length+m) cap)).cell? ⟨R,1,none⟩=some (.slice (some ⟨g,0,none⟩) (L.length+m) cap):=(xu hX _).cell 1
  unfold rowOf at e ⊢
  rw [h5] at e
  rw [hv0]
  have hq:g=q:=Option.some.inj (show some g=some q from e)
  subst hq
  rcases hat with hat | hat | hat
  ·exact Or.inl hat
  ·exact Or.inr (by omega)
  ·exact Or.inr hat
theorem aP (R B K m n c:Nat) (A:Option Addr) (L ext:List (List UInt8)) (w:World) (h:WrS w R B A n c L) (hK:Blk w K 9 (fA ext).toArray) (hm:ext.length=m) (hm0:0<m) (hn:L.length+m≤1000000) :
  Calls Tryz.prog 135 #[.pointer (some ⟨R,0,none⟩),.slice (some ⟨K,0,none⟩) m m] w (nk w R B A n c (L ++ ext)):=by
 have H:=Lib.hid h
 obtain ⟨hlt,htop,v,hx,ho⟩:=h
 obtain ⟨i0,hi0,hz0,hz1,hz2⟩:=info_parts Ie
 have x1:w.cell? ⟨R,1,none⟩=some v:=hx.cell 1
 have hXl:=hx.lt
 have HX:=Lib.hid hx; have HO:=Lib.hid ho; have HK:=Lib.hid hK
 clear hx ho hK
 have HM:=Lib.hid hm; clear hm
 go_enter Tryz.func135,Tryz.ntmps135
 go_wp2_with (at_builtin; refine wpList_append_lies _ rfl _ _ 52 rfl B 9 i0 (.string ⟨#[]⟩) 1 16 Tryz.underlying52 hi0 hz0 hz1 hz2 rfl (by decide) v L.length (fA L) rfl HO.out ⟨K,0,none⟩ m m (fA ext) rfl ?_ (uY HK.out) (xN ext) hm0 (by unfold maxLen; omega) (by omega) htop w.heap.size rfl ?_)
 ·simp [fA,HM.out]
 intro g cap w1 hown hgrow hat hlt1
 have hX1:Blk w1 R 151 #[.slice A n c,v]:=(hgrow.block R hXl (fun e=>by have:=(HO.out.lt R e.symm).1; omega)).trans HX.out
 have HX1:=Lib.hid hX1
 have y1:w1.cell? ⟨R,1,none⟩=some v:=hX1.cell 1
 have yf:=hX1.free 1
 have HG:=Lib.hid hgrow; have HA:=Lib.hid hat; have HO1:=Lib.hid hown
 clear hX1 hgrow hat hown x1
 go_wp2_with fail
 go_end0
 exact yz R B K m n c A L ext w w1 g cap v H.out HO.out HO1.out HX1.out (HX.out.cell 1) HG.out (HA.out.elim Or.inl (fun h=>Or.inr (Or.inl h))) HM.out
theorem KG (R B K m n c:Nat) (A:Option Addr) (L ext:List (List UInt8)) (w:World) (u:FrameMode) (h:WrS w R B A n c L) (hK:Blk w K 9 (fA ext).toArray) (hm:ext.length=m) (hm0:0<m) (hn:L.length+m≤1000000) :
  CallsD Tryz.prog 135 #[.pointer (some ⟨R,0,none⟩),.slice (some ⟨K,0,none⟩) m m] u w fun e u' w'=>u'=u∧nk w R B A n c (L ++ ext) e w':=by
 have H:=Lib.hid h
 obtain ⟨hlt,htop,v,hx,ho⟩:=h
 obtain ⟨i0,hi0,hz0,hz1,hz2⟩:=info_parts Ie
 have x1:w.cell? ⟨R,1,none⟩=some v:=hx.cell 1
 have hXl:=hx.lt
 have HX:=Lib.hid hx; have HO:=Lib.hid ho; have HK:=Lib.hid hK
 clear hx ho hK
 have HM:=Lib.hid hm; clear hm
 go_enter_d Tryz.func135,Tryz.ntmps135
 go_wp2_with (at_builtin; refine wpList_append_lies _ rfl _ _ 52 rfl B 9 i0 (.string ⟨#[]⟩) 1 16 Tryz.underlying52 hi0 hz0 hz1 hz2 rfl (by decide) v L.length (fA L) rfl HO.out ⟨K,0,none⟩ m m (fA ext) rfl ?_ (uY HK.out) (xN ext) hm0 (by unfold maxLen; omega) (by omega) htop w.heap.size rfl ?_)
 ·simp [fA,HM.out]
 intro g cap w1 hown hgrow hat hlt1
 have hX1:Blk w1 R 151 #[.slice A n c,v]:=(hgrow.block R hXl (fun e=>by have:=(HO.out.lt R e.symm).1; omega)).trans HX.out
 have HX1:=Lib.hid hX1
 have y1:w1.cell? ⟨R,1,none⟩=some v:=hX1.cell 1
 have yf:=hX1.free 1
 have HG:=Lib.hid hgrow; have HA:=Lib.hid hat; have HO1:=Lib.hid hown
 clear hX1 hgrow hat hown x1
 go_wp2_with fail
 go_end0
 exact yz R B K m n c A L ext w w1 g cap v H.out HO.out HO1.out HX1.out (HX.out.cell 1) HG.out (HA.out.elim Or.inl (fun h=>Or.inr (Or.inl h))) HM.out
end Go.Proofs.YtkkeocnnecegbaaGreatDoor
namespace Go.Proofs.YtkkeocnnecegbaaGreatDoor
open Go.RowKit
def txt (l:List Tk):List (List UInt8):=l.map (·.2.1)
theorem tN (a b:List Tk):txt (a ++ b)=txt a ++ txt b:=by simp [txt]
theorem aD (a:List Tk):(txt a).length=a.length:=by simp [txt]
theorem jv (ks:List Item) (o j:Nat) (h:j<ks.length):(offs o ks)[j]? = some (o+sizeL (ks.take j)):=by
 have h1:=vC ks o j h
 have h2:(offs o ks)[j]? = ((offs o ks).take (j+1))[j]?:=by rw [List.getElem?_take,if_pos (by omega)]
 rw [h2,h1,List.getElem?_append_right (by rw [List.length_take,aL]; omega)]
 have:j - ((offs o ks).take j).length=0:=by rw [List.length_take,aL]; omega
 rw [this]; rfl
theorem jQ {T:List GN}:∀ {ks:List Item} {o:Nat},AtL T o ks→∀ j (h:j<ks.length),AtI T (o+sizeL (ks.take j)) ks[j]
 | [],_,_,j,h=>by simp at h
 | x :: r,o,ha,j,h=>by
  cases j with
  | zero=>simpa [sizeL] using ha.1
  | succ j =>
   have:=jQ ha.2 j (by simpa using h)
   simp only [List.take_succ_cons,sizeL,List.getElem_cons_succ]
   rw [← Nat.add_assoc]
   exact this
theorem uG (x:Item):∀ (b:Bool) (l:List Item),outA b (l ++ [x])=outA b l ++ ((if b=true∧l=[] then [] else [mk4 [44]]) ++ outX 1 x)
 | b,[]=>by cases b <;> simp [outA]
 | b,y :: r=>by
  simp only [List.cons_append,outA,uG x false r]
  cases b <;> simp
theorem DU (ks:List Item) (j:Nat) (h:j<ks.length):outA true (ks.take (j+1))=outA true (ks.take j) ++ ((if j=0 then [] else [mk4 [44]]) ++ outX 1 ks[j]):=by
 rw [take_one ks j h,uG]
 have:(true=true∧ks.take j=[])↔j=0:=by
  rw [List.take_eq_nil_iff]
  constructor
  ·rintro ⟨_,h1 | h1⟩
   ·exact h1
   ·subst h1; simp at h
  ·intro h1; exact⟨rfl,Or.inl h1⟩
 by_cases hj:j=0
 ·rw [if_pos hj,if_pos (this.2 hj)]
 ·rw [if_neg hj,if_neg (fun hh=>hj (this.1 hh))]
def XC (w0:World) (A:Option Addr) (c:Nat) (l:List PV) (x:Item):Prop :=
 ∀ (i least R B:Nat) (w:World) (L:List (List UInt8)),AtI (gns l) i x→Below w0.heap.size w0 w→w0.heap.size≤R→WrS w R B A l.length c L→L.length+(outX least x).length≤1000000→least≤4 →
  Calls Tryz.prog 138 #[.pointer (some ⟨R,0,none⟩),.int .i64 (i:Nat),.int .i64 (least:Nat)] w (nk w R B A l.length c (L ++ txt (outX least x)))
theorem Du (ks:List Item) (j:Nat):(outA true (ks.take j)).length≤(outA true ks).length:=by
 have key:∀ (a b:List Item) (f:Bool),(outA f a).length≤(outA f (a ++ b)).length:=by
  intro a
  induction a with
  | nil=>intro b f; simp [outA]
  | cons x r ih=>intro b f; have:=ih b false; simp only [List.cons_append,outA,List.length_append]; omega
 have:=key (ks.take j) (ks.drop j) true
 rwa [List.take_append_drop] at this
theorem sN (w0:World) (A A2:Option Addr) (c c2:Nat) (l:List PV) (ks:List Item) (hk:∀ y∈ks,XC w0 A c l y) (o R B:Nat) (w:World) (L:List (List UInt8)) (hl:ks.length≤1000000) (h0:gU w0 A2 ((offs o ks).map (fun k:Nat=>(k:Int)))) (ha:AtL (gns l) o ks) (hb:Below w0.heap.size w0 w) (hR:w0.heap.size≤R) (hw:WrS w R B A l.length c L) (hL:L.length+(outA true ks).length≤1000000) :
  Calls Tryz.prog 137 #[.pointer (some ⟨R,0,none⟩),.slice A2 ks.length c2] w (nk w R B A l.length c (L ++ txt (outA true ks))):=by
 have HK:=Lib.hid hk; have H0:=Lib.hid h0; have HA:=Lib.hid ha; have HB:=Lib.hid hb; have HW:=Lib.hid hw; have HL:=Lib.hid hL
 have htop:=hw.top
 have hRB:=hw.lt
 clear hk h0 ha hb hw hL
 go_enter Tryz.func137,Tryz.ntmps137
 go_wp2_with fail
 go_loopg [8] ks.length (fun gk v wr=>∃ j:Nat,j≤ks.length∧ks.length - j≤gk∧v=.int .i64 j∧Hid (WrS wr R B A l.length c (L ++ txt (outA true (ks.take j))))∧Hid (FrW B R w wr))
 case atStart=>exact⟨0,Nat.zero_le _,Nat.le_refl _,rfl,Lib.hid (by simpa [outA,txt] using HW.out),Lib.hid (FrW.refl _ _ _)⟩
 case round =>
  obtain ⟨j,hj,hgk,rfl,HWR,HFR⟩:=hrel
  by_cases hlt:j<ks.length
  case neg =>
   have hie:j=ks.length:=by omega
   subst hie
   have hful:ks.take ks.length=ks:=List.take_length
   have HFU:=Lib.hid hful
   clear hful
   go_wp2_with fail
   go_end0
   have:=HWR.out
   rw [HFU.out] at this
   exact⟨rfl,this,HFR.out⟩
  case pos =>
   have hBW:Below w0.heap.size w0 wr:=HB.out.trans (HFR.out.below hR (by omega) (by have:=HB.out.size; omega))
   rcases H0.out with h2 | ⟨b3,o3,rfl,h3⟩
   ·exfalso
    have:=congrArg List.length h2
    rw [List.length_map,aL,List.length_nil] at this
    omega
   have k3':=h3 j ((o+sizeL (ks.take j):Nat):Int) (by rw [List.getElem?_map,jv ks o j hlt]; rfl)
   have k3:wr.cell? ⟨b3,o3+j,none⟩=some (.int .i64 ((o+sizeL (ks.take j):Nat):Int)):=by
    rw [← k3']
    exact hBW.cell (p:=⟨b3,_,none⟩) (aa k3')
   have HBW:=Lib.hid hBW
   have hXC:=HK.out ks[j] (List.getElem_mem hlt)
   have hat:=jQ HA.out j hlt
   have hsn:=DU ks j hlt
   have hmono:=Du ks (j+1)
   rw [hsn,List.length_append] at hmono
   have HMO:=Lib.hid hmono
   have HXC:=Lib.hid hXC; have HAT:=Lib.hid hat; have HSN:=Lib.hid hsn
   have lb3:=aa k3
   clear k3' h3 hBW hXC hat hsn hmono
   generalize hidx:o+sizeL (ks.take j)=idx at *
   generalize ks[j]=y at *
   clear hidx
   by_cases hj0:j=0
   case pos =>
    subst hj0
    have e1:decide (0<(0:Nat))=false:=rfl
    simp only [Nat.add_zero] at k3
    go_wp2_with fail
    refine (HXC.out idx 1 R B wr _ HAT.out HBW.out hR HWR.out (by have h1:=HMO.out; have h2:=HL.out; simp only [List.length_append,aD] at h1 ⊢; omega) (by omega)).mono ?_
    rintro e w4 ⟨rfl,hw4,hf4⟩
    have HW4:=Lib.hid hw4
    have HF4:=Lib.hid (HFR.out.trans hf4)
    clear hw4 hf4
    go_wp2_with fail
    cases gk with
    | zero=>omega
    | succ gk =>
     go_roundg gk
     case measure=>omega
     case rel =>
      refine⟨0+1,by omega,by omega,by simp,Lib.hid ?_,HF4⟩
      have:=HW4.out
      rw [List.append_assoc,← tN] at this
      rw [HSN.out]
      simpa using this
   case neg =>
    have e1:decide (0<j)=true:=decide_eq_true (by omega)
    go_wp2_with fail
    refine (aP R B wr.heap.size 1 l.length c A (L ++ txt (outA true (ks.take j))) [[44]] _ (HWR.out.alloc _) (Blk.new wr 9 _) rfl (by omega) (by have h1:=HMO.out; have h2:=HL.out; rw [if_neg hj0] at h1; simp only [List.length_append,aD,List.length_cons] at h1 ⊢; omega)).mono ?_
    rintro e w3 ⟨rfl,hw3,hf3⟩
    have HW3:=Lib.hid hw3
    have HF3:=Lib.hid ((HFR.out.alloc _).trans hf3)
    have HB3:=Lib.hid (HB.out.trans (HF3.out.below hR (by omega) (by have:=HB.out.size; omega)))
    clear hw3 hf3
    go_wp2_with fail
    refine (HXC.out idx 1 R B w3 _ HAT.out HB3.out hR HW3.out (by have h1:=HMO.out; have h2:=HL.out; rw [if_neg hj0] at h1; simp only [List.length_append,aD,List.length_cons,List.length_nil] at h1 ⊢; omega) (by omega)).mono ?_
    rintro e w4 ⟨rfl,hw4,hf4⟩
    have HW4:=Lib.hid hw4
    have HF4:=Lib.hid (HF3.out.trans hf4)
    clear hw4 hf4
    go_wp2_with fail
    cases gk with
    | zero=>omega
    | succ gk =>
     go_roundg gk
     case measure=>omega
     case rel =>
      refine⟨j+1,by omega,by omega,by simp,Lib.hid ?_,HF4⟩
      have:=HW4.out
      rw [HSN.out,if_neg hj0]
      simpa [txt,mk4] using this
end Go.Proofs.YtkkeocnnecegbaaGreatDoor
namespace Go.Proofs.YtkkeocnnecegbaaGreatDoor
open Go.RowKit
theorem G6:Tryz.prog.globalNamed "internal/strconv.uint64pow10" = some 4:=by kernel_rfl
def nY (w:World):Prop:=Lib.TabIs Tryz.prog w "internal/strconv.uint64pow10" .u64 Lib.pow10Tab
theorem nY.below {w w':World} (h:nY w) (hb:Below w.heap.size w w'):nY w':=by
 have:=h
 unfold nY Lib.TabIs at *
 have hlt:4<w.heap.size:=aa (Lib.TabIs.cell h G6 0 (by decide))
 rw [← this]
 unfold World.var?
 rw [G6]
 simp [hb.block 4 hlt]
theorem zB (w:World) (k:Nat) (os:Array Obj):Below w.heap.size w (Go.Sort.grow (w.drewN k) os) :=
 ⟨rfl,rfl,rfl,by show w.heap.size≤(w.heap ++ os).size; rw [Array.size_append]; omega,fun j hj=>by show (w.heap ++ os)[j]? = _; exact Array.getElem?_append_left hj⟩
theorem zQ (n:Int) (h0:0≤n) (h1:n≤2147483647) (w:World) (ht:nY w) :
  Calls Tryz.prog 136 #[.int .i64 n,.int .i64 10] w fun e w'=>e=.returned (.string ⟨(Lib.itoa n).toArray⟩)∧Below w.heap.size w w' :=
 (Tryz.strconv_FormatInt_10 n (by omega) (by omega) w ht).mono fun e w' ⟨he,k,os,hw⟩=>⟨he,by rw [hw]; exact zB w k os⟩
theorem gP {l:List PV} {i:Nat} {g:GN} (h:(gns l)[i]? = some g):∃ v,l[i]? = some (g,v):=by
 unfold gns at h
 rw [List.getElem?_map,Option.map_eq_some_iff] at h
 obtain ⟨⟨g',v⟩,h1,h2⟩:=h
 simp only at h2
 subst h2
 exact⟨v,h1⟩
structure Kl (w0 w:World) (A:Option Addr) (i:Nat) (g:GN) (b o:Nat) (A3:Option Addr) (c3:Nat):Prop where
 e:A=some ⟨b,o,none⟩
 x0:w.cell? ⟨b,o+i*5,none⟩=some (.int .u8 g.kind)
 x1:w.cell? ⟨b,o+i*5+1,none⟩=some (.string ⟨g.text.toArray⟩)
 x2:w.cell? ⟨b,o+i*5+2,none⟩=some (.int .i64 g.n)
 x3:w.cell? ⟨b,o+i*5+3,none⟩=some (.int .i64 g.at')
 x4:w.cell? ⟨b,o+i*5+4,none⟩=some (.slice A3 g.kids.length c3)
 cap:g.kids.length≤c3
 ks:gU w0 A3 g.kids
theorem bR {w0 w:World} {A:Option Addr} {l:List PV} {i:Nat} {g:GN} (h0:bg w0 A l) (hb:Below w0.heap.size w0 w) (hg:(gns l)[i]? = some g):i<l.length∧∃ b o A3 c3,Kl w0 w A i g b o A3 c3:=by
 obtain ⟨v,hv⟩:=gP hg
 obtain ⟨b,o,e,x0,x1,x2,x3,x4,A3,c3,hxv,hc,hi⟩:=h0.at hv
 have hxv:v=.slice A3 g.kids.length c3:=hxv
 subst hxv
 exact⟨(List.getElem?_eq_some_iff.1 hv).1,b,o,A3,c3,e,(hb.cell (p:=⟨b,_,none⟩) (aa x0)).trans x0,(hb.cell (p:=⟨b,_,none⟩) (aa x1)).trans x1,(hb.cell (p:=⟨b,_,none⟩) (aa x2)).trans x2,(hb.cell (p:=⟨b,_,none⟩) (aa x3)).trans x3,(hb.cell (p:=⟨b,_,none⟩) (aa x4)).trans x4,hc,hi⟩
theorem Fh (w0:World) (A:Option Addr) (c:Nat) (l:List PV) (h0:bg w0 A l) (ht:nY w0) (_hl:l.length≤1000000) (n:Nat) (a:Nat) (hn:n≤2147483647):XC w0 A c l (.mk 17 [] (n:Int) a []):=by
 intro i least R B w L ha hb hR hw hL hle
 obtain ⟨⟨a',hg⟩,_⟩:=ha
 obtain ⟨hil,b,o,A3,c3,rfl,x0,x1,x2,x3,x4,hc3,hks⟩:=bR h0 hb hg
 simp only [offs,List.map_nil,List.length_nil] at x0 x1 x2 x3 x4 hc3
 have lb:=aa x0
 have hRw:R<w.heap.size:=Nat.lt_of_lt_of_le hw.lt hw.top
 have hi0:(0:Int)≤(i:Int):=by omega
 have hi1:(i:Int)<(l.length:Int):=by omega
 have r0:=hw.cell
 have HW:=Lib.hid hw; have HL:=Lib.hid hL
 have HT:=Lib.hid (ht.below hb)
 clear hw hL h0 ht hg hb hks hc3
 go_enter Tryz.func138,Tryz.ntmps138
 go_wp2_with fail
 refine (zQ (n:Int) (by omega) (by omega) _ (HT.out.below ((Below.refl _ _).alloc (Nat.le_refl _) _))).mono ?_
 rintro e w2 ⟨rfl,hb2⟩
 have HW2:=Lib.hid ((HW.out.alloc (.cells #[.int .u8 17,.string ⟨#[]⟩,.int .i64 (n:Int),.int .i64 a',.slice A3 0 c3] 43)).below hb2)
 have HF2:=Lib.hid (((FrW.refl B R w).alloc (.cells #[.int .u8 17,.string ⟨#[]⟩,.int .i64 (n:Int),.int .i64 a',.slice A3 0 c3] 43)).trans (.of hb2))
 clear hb2 x0 x1 x2 x3 x4 r0
 go_wp2_with fail
 refine (aP R B w2.heap.size 1 l.length c _ L [Lib.itoa (n:Int)] _ (HW2.out.alloc _) (Blk.new w2 9 _) rfl (by omega) (by have:=HL.out; simp only [outX,List.length_cons,List.length_nil] at this; omega)).mono ?_
 rintro e w3 ⟨rfl,hw3,hf3⟩
 have HW3:=Lib.hid hw3
 have HF3:=Lib.hid ((HF2.out.alloc _).trans hf3)
 clear hw3 hf3
 go_wp2_with fail
 go_end0
 exact⟨rfl,HW3.out,HF3.out⟩
end Go.Proofs.YtkkeocnnecegbaaGreatDoor
namespace Go.Proofs.YtkkeocnnecegbaaGreatDoor
open Go.RowKit
theorem dF (w:World) (K:Nat) (T:TypeId) (cs:Array Value) (h:K=w.heap.size):Blk (w.alloc (.cells cs T)) K T cs:=h ▸ Blk.new w T cs
theorem Ke:(⟨#[45,33]⟩:ByteArray).extract 0 1=⟨#[45]⟩:=by decide +kernel
theorem J8:(⟨#[45,33]⟩:ByteArray).extract 1 2=⟨#[33]⟩:=by decide +kernel
theorem Di (w0:World) (A:Option Addr) (c:Nat) (l:List PV) (h0:bg w0 A l) (_hl:l.length≤1000000) (t:List UInt8) (a:Nat):XC w0 A c l (.mk 18 t 0 a []):=by
 intro i least R B w L ha hb hR hw hL hle
 obtain ⟨⟨a',hg⟩,_⟩:=ha
 obtain ⟨hil,b,o,A3,c3,rfl,x0,x1,x2,x3,x4,hc3,hks⟩:=bR h0 hb hg
 simp only [offs,List.map_nil,List.length_nil] at x0 x1 x2 x3 x4 hc3
 have lb:=aa x0
 have hRw:R<w.heap.size:=Nat.lt_of_lt_of_le hw.lt hw.top
 have hi0:(0:Int)≤(i:Int):=by omega
 have hi1:(i:Int)<(l.length:Int):=by omega
 have r0:=hw.cell
 have HW:=Lib.hid hw; have HL:=Lib.hid hL
 clear hw hL h0 hg hb hks hc3
 go_enter Tryz.func138,Tryz.ntmps138
 go_wp2_with fail
 refine (aP R B (w.heap.size+1) 1 l.length c _ L [t] _ ((HW.out.alloc _).alloc _) (dF _ _ _ _ (by simp)) rfl (by omega) (by have:=HL.out; simp only [outX,List.length_cons,List.length_nil] at this; omega)).mono ?_
 rintro e w3 ⟨rfl,hw3,hf3⟩
 have HW3:=Lib.hid hw3
 have HF3:=Lib.hid ((((FrW.refl B R w).alloc _).alloc _).trans hf3)
 clear hw3 hf3
 go_wp2_with fail
 go_end0
 exact⟨rfl,HW3.out,HF3.out⟩
theorem BU (w0:World) (A:Option Addr) (c:Nat) (l:List PV) (h0:bg w0 A l) (_hl:l.length≤1000000) (t:List UInt8) (a:Nat) (y:Item) (hy:XC w0 A c l y):XC w0 A c l (.mk 19 t 0 a [y]):=by
 intro i least R B w L ha hb hR hw hL hle
 obtain ⟨⟨a',hg⟩,hay⟩:=ha
 obtain ⟨hil,b,o,A3,c3,rfl,x0,x1,x2,x3,x4,hc3,hks⟩:=bR h0 hb hg
 simp only [offs,List.map_cons,List.map_nil,List.length_nil,List.length_cons] at x0 x1 x2 x3 x4 hc3
 have lb:=aa x0
 have hRw:R<w.heap.size:=Nat.lt_of_lt_of_le hw.lt hw.top
 have hRB:=hw.lt
 have htop:=hw.top
 have hi0:(0:Int)≤(i:Int):=by omega
 have hi1:(i:Int)<(l.length:Int):=by omega
 have r0:=hw.cell
 have hex:=fun w2 L2 hb2 hw2 hL2=>sN w0 (some ⟨b,o,none⟩) A3 c c3 l [y] (fun z hz=>by rw [List.mem_singleton] at hz; subst hz; exact hy) (i+1) R B w2 L2 (by simp) hks hay hb2 hR hw2 hL2
 have HEX:=Lib.hid hex
 have HW:=Lib.hid hw; have HL:=Lib.hid hL; have HB:=Lib.hid hb
 have hlen:(outA true [y]).length+3=(outX least (.mk 19 t 0 a [y])).length:=by simp [outX,outA]
 have HLEN:=Lib.hid hlen
 have htxt:txt (outX least (.mk 19 t 0 a [y]))=[t,[91]] ++ txt (outA true [y]) ++ [[93]]:=by simp [outX,outA,txt,nm,mk4]
 have HTX:=Lib.hid htxt
 clear hw hL h0 hg hb hks hc3 hay hex hlen htxt
 go_enter Tryz.func138,Tryz.ntmps138
 go_wp2_with fail
 have hnew:Blk ((w.alloc (.cells #[.int .u8 19,.string ⟨t.toArray⟩,.int .i64 0,.int .i64 a',.slice A3 1 c3] 43)).alloc (.cells #[.string ⟨t.toArray⟩,.string ⟨#[91]⟩] 9)) w.heap.size 43 #[.int .u8 19,.string ⟨t.toArray⟩,.int .i64 0,.int .i64 a',.slice A3 1 c3]:=(Blk.new w 43 _).alloc _
 refine (aP R B (w.heap.size+1) 2 l.length c _ L [t,[91]] _ ((HW.out.alloc _).alloc _) (dF _ _ _ _ (by simp)) rfl (by omega) (by have:=HL.out; have:=HLEN.out; omega)).mono ?_
 rintro e w3 ⟨rfl,hw3,hf3⟩
 have HW3:=Lib.hid hw3
 have HF3:=Lib.hid ((((FrW.refl B R w).alloc (.cells #[.int .u8 19,.string ⟨t.toArray⟩,.int .i64 0,.int .i64 a',.slice A3 1 c3] 43)).alloc (.cells #[.string ⟨t.toArray⟩,.string ⟨#[91]⟩] 9)).trans hf3)
 have hn3:=hf3.blk hnew (by omega) (by decide)
 have k4:w3.cell? ⟨w.heap.size,4,none⟩=some (.slice A3 1 c3):=hn3.cell 4
 have lk:=hn3.lt
 have HN3:=Lib.hid hn3
 clear hw3 hf3 hnew hn3 x0 x1 x2 x3 x4 r0
 go_wp2_with fail
 refine (HEX.out w3 _ (HB.out.trans (HF3.out.below hR (by omega) (by have:=HB.out.size; omega))) HW3.out (by have:=HL.out; have:=HLEN.out; simp only [List.length_append,List.length_cons,List.length_nil]; omega)).mono ?_
 rintro e w4 ⟨rfl,hw4,hf4⟩
 have HW4:=Lib.hid hw4
 have HF4:=Lib.hid (HF3.out.trans hf4)
 clear hw4 hf4
 go_wp2_with fail
 refine (aP R B w4.heap.size 1 l.length c _ _ [[93]] _ (HW4.out.alloc _) (Blk.new w4 9 _) rfl (by omega) (by have:=HL.out; have:=HLEN.out; simp only [List.length_append,List.length_cons,List.length_nil,aD]; omega)).mono ?_
 rintro e w5 ⟨rfl,hw5,hf5⟩
 have HW5:=Lib.hid hw5
 have HF5:=Lib.hid ((HF4.out.alloc _).trans hf5)
 clear hw5 hf5
 go_wp2_with fail
 go_end0
 refine⟨rfl,?_,HF5.out⟩
 rw [HTX.out,← List.append_assoc,← List.append_assoc]
 exact HW5.out
theorem Il (w0:World) (A:Option Addr) (c:Nat) (l:List PV) (h0:bg w0 A l) (_hl:l.length≤1000000) (n:Int) (hn:n=1∨n=2) (a:Nat) (y:Item) (hy:XC w0 A c l y):XC w0 A c l (.mk 20 [] n a [y]):=by
 intro i least R B w L ha hb hR hw hL hle
 obtain ⟨⟨a',hg⟩,hay⟩:=ha
 obtain ⟨hil,b,o,A3,c3,rfl,x0,x1,x2,x3,x4,hc3,hks⟩:=bR h0 hb hg
 simp only [offs,List.map_cons,List.map_nil,List.length_nil,List.length_cons] at x0 x1 x2 x3 x4 hc3 hks
 rcases hks with hks | ⟨b3,o3,rfl,hks⟩
 ·cases hks
 have lb:=aa x0
 have hRw:R<w.heap.size:=Nat.lt_of_lt_of_le hw.lt hw.top
 have hRB:=hw.lt
 have htop:=hw.top
 have hi0:(0:Int)≤(i:Int):=by omega
 have hi1:(i:Int)<(l.length:Int):=by omega
 have r0:=hw.cell
 have hex:=fun w2 L2 hb2 hw2 hL2=>hy (i+1) 4 R B w2 L2 hay.1 hb2 hR hw2 hL2 (Nat.le_refl _)
 have hkc:=hks 0 _ rfl
 have HEX:=Lib.hid hex
 have HKC:=Lib.hid hkc
 have HW:=Lib.hid hw; have HL:=Lib.hid hL; have HB:=Lib.hid hb
 clear hw hL h0 hg hb hks hc3 hay hex hkc
 rcases hn with rfl | rfl
 ·have htxt:txt (outX least (.mk 20 [] 1 a [y]))=[[45]] ++ txt (outX 4 y):=by simp [outX,txt,mk4]
  have HTX:=Lib.hid htxt
  have hlen:(outX 4 y).length+1=(outX least (.mk 20 [] 1 a [y])).length:=by simp [outX]
  have HLEN:=Lib.hid hlen
  clear htxt hlen
  have e01:=Ke
  have e12:=J8
  go_enter Tryz.func138,Tryz.ntmps138
  go_wp2_with fail
  have hnew:Blk ((w.alloc (.cells #[.int .u8 20,.string ⟨#[]⟩,.int .i64 1,.int .i64 a',.slice (some ⟨b3,o3,none⟩) 1 c3] 43)).alloc (.cells #[.string ⟨#[45]⟩] 9)) w.heap.size 43 #[.int .u8 20,.string ⟨#[]⟩,.int .i64 1,.int .i64 a',.slice (some ⟨b3,o3,none⟩) 1 c3]:=(Blk.new w 43 _).alloc _
  refine (aP R B (w.heap.size+1) 1 l.length c _ L [[45]] _ ((HW.out.alloc _).alloc _) (dF _ _ _ _ (by simp)) rfl (by omega) (by have:=HL.out; have:=HLEN.out; omega)).mono ?_
  rintro e w3 ⟨rfl,hw3,hf3⟩
  have HW3:=Lib.hid hw3
  have HF3:=Lib.hid ((((FrW.refl B R w).alloc (.cells #[.int .u8 20,.string ⟨#[]⟩,.int .i64 1,.int .i64 a',.slice (some ⟨b3,o3,none⟩) 1 c3] 43)).alloc (.cells #[.string ⟨#[45]⟩] 9)).trans hf3)
  have hn3:=hf3.blk hnew (by omega) (by decide)
  have hB3:Below w0.heap.size w0 w3:=HB.out.trans (HF3.out.below hR (by omega) (by have:=HB.out.size; omega))
  have k4:w3.cell? ⟨w.heap.size,4,none⟩=some (.slice (some ⟨b3,o3,none⟩) 1 c3):=hn3.cell 4
  have lk:=hn3.lt
  have k5:w3.cell? ⟨b3,o3,none⟩=some (.int .i64 ((i+1:Nat):Int)):=(hB3.cell (p:=⟨b3,_,none⟩) (aa HKC.out)).trans HKC.out
  have lk5:=aa k5
  have HB3:=Lib.hid hB3
  clear hw3 hf3 hnew hn3 x0 x1 x2 x3 x4 r0 hB3
  obtain ⟨i1,hi1'⟩:∃ i1,i1=i+1:=⟨_,rfl⟩
  rw [← hi1'] at k5 HEX
  clear hi1'
  go_wp2_with fail
  refine (HEX.out w3 _ HB3.out HW3.out (by have:=HL.out; have:=HLEN.out; simp only [List.length_append,List.length_cons,List.length_nil]; omega)).mono ?_
  rintro e w4 ⟨rfl,hw4,hf4⟩
  have HW4:=Lib.hid hw4
  have HF4:=Lib.hid (HF3.out.trans hf4)
  clear hw4 hf4
  go_wp2_with fail
  go_end0
  refine⟨rfl,?_,HF4.out⟩
  rw [HTX.out,← List.append_assoc]
  exact HW4.out
 ·have htxt:txt (outX least (.mk 20 [] 2 a [y]))=[[33]] ++ txt (outX 4 y):=by simp [outX,txt,mk4]
  have HTX:=Lib.hid htxt
  have hlen:(outX 4 y).length+1=(outX least (.mk 20 [] 2 a [y])).length:=by simp [outX]
  have HLEN:=Lib.hid hlen
  clear htxt hlen
  have e01:=Ke
  have e12:=J8
  go_enter Tryz.func138,Tryz.ntmps138
  go_wp2_with fail
  have hnew:Blk ((w.alloc (.cells #[.int .u8 20,.string ⟨#[]⟩,.int .i64 2,.int .i64 a',.slice (some ⟨b3,o3,none⟩) 1 c3] 43)).alloc (.cells #[.string ⟨#[33]⟩] 9)) w.heap.size 43 #[.int .u8 20,.string ⟨#[]⟩,.int .i64 2,.int .i64 a',.slice (some ⟨b3,o3,none⟩) 1 c3]:=(Blk.new w 43 _).alloc _
  refine (aP R B (w.heap.size+1) 1 l.length c _ L [[33]] _ ((HW.out.alloc _).alloc _) (dF _ _ _ _ (by simp)) rfl (by omega) (by have:=HL.out; have:=HLEN.out; omega)).mono ?_
  rintro e w3 ⟨rfl,hw3,hf3⟩
  have HW3:=Lib.hid hw3
  have HF3:=Lib.hid ((((FrW.refl B R w).alloc (.cells #[.int .u8 20,.string ⟨#[]⟩,.int .i64 2,.int .i64 a',.slice (some ⟨b3,o3,none⟩) 1 c3] 43)).alloc (.cells #[.string ⟨#[33]⟩] 9)).trans hf3)
  have hn3:=hf3.blk hnew (by omega) (by decide)
  have hB3:Below w0.heap.size w0 w3:=HB.out.trans (HF3.out.below hR (by omega) (by have:=HB.out.size; omega))
  have k4:w3.cell? ⟨w.heap.size,4,none⟩=some (.slice (some ⟨b3,o3,none⟩) 1 c3):=hn3.cell 4
  have lk:=hn3.lt
  have k5:w3.cell? ⟨b3,o3,none⟩=some (.int .i64 ((i+1:Nat):Int)):=(hB3.cell (p:=⟨b3,_,none⟩) (aa HKC.out)).trans HKC.out
  have lk5:=aa k5
  have HB3:=Lib.hid hB3
  clear hw3 hf3 hnew hn3 x0 x1 x2 x3 x4 r0 hB3
  obtain ⟨i1,hi1'⟩:∃ i1,i1=i+1:=⟨_,rfl⟩
  rw [← hi1'] at k5 HEX
  clear hi1'
  go_wp2_with fail
  refine (HEX.out w3 _ HB3.out HW3.out (by have:=HL.out; have:=HLEN.out; simp only [List.length_append,List.length_cons,List.length_nil]; omega)).mono ?_
  rintro e w4 ⟨rfl,hw4,hf4⟩
  have HW4:=Lib.hid hw4
  have HF4:=Lib.hid (HF3.out.trans hf4)
  clear hw4 hf4
  go_wp2_with fail
  go_end0
  refine⟨rfl,?_,HF4.out⟩
  rw [HTX.out,← List.append_assoc]
  exact HW4.out
end Go.Proofs.YtkkeocnnecegbaaGreatDoor
namespace Go.Proofs.YtkkeocnnecegbaaGreatDoor
open Go.RowKit
theorem CJ {n:Nat} {least:Nat} (a:Nat) (x y:Item) (h:¬ aA n<least):txt (outX least (.mk 21 [] (n:Int) a [x,y]))=txt (outX (aA n) x) ++ [bY n] ++ txt (outX (aA n+1) y)∧(outX least (.mk 21 [] (n:Int) a [x,y])).length=(outX (aA n) x).length+1+(outX (aA n+1) y).length:=by
 have e:outX least (.mk 21 [] (n:Int) a [x,y])=outX (aA n) x ++ mk4 (bY n) :: outX (aA n+1) y:=by
  simp only [outX,Int.toNat_natCast]
  rw [if_neg h]
 rw [e]
 refine⟨by simp [txt,mk4],by simp; omega⟩
theorem yN {n:Nat} {least:Nat} (a:Nat) (x y:Item) (h:aA n<least):txt (outX least (.mk 21 [] (n:Int) a [x,y]))=[[40]] ++ txt (outX (aA n) x) ++ [bY n] ++ txt (outX (aA n+1) y) ++ [[41]]∧(outX least (.mk 21 [] (n:Int) a [x,y])).length=(outX (aA n) x).length+1+(outX (aA n+1) y).length+2:=by
 have e:outX least (.mk 21 [] (n:Int) a [x,y])=mk4 [40] :: (outX (aA n) x ++ mk4 (bY n) :: outX (aA n+1) y ++ [mk4 [41]]):=by
  simp only [outX,Int.toNat_natCast]
  rw [if_pos h]
 rw [e]
 refine⟨by simp [txt,mk4],by simp; omega⟩
theorem xY {n:Nat} (h1:1≤n) (h2:n≤14):gH.getD n []=bY n:=by
 have:n=1∨n=2∨n=3∨n=4∨n=5∨n=6∨n=7∨n=8∨n=9∨n=10∨n=11∨n=12∨n=13∨n=14:=by omega
 rcases this with rfl | rfl | rfl | rfl | rfl | rfl | rfl | rfl | rfl | rfl | rfl | rfl | rfl | rfl <;> rfl
theorem zt (w0:World) (A:Option Addr) (c:Nat) (l:List PV) (m:Int) (h0:bg w0 A l) (hm:w0.cell? ⟨3,0,none⟩=some (.int .i64 m)) (_hl:l.length≤1000000) (n:Nat) (hn1:1≤n) (hn2:n≤14) (a:Nat) (x y:Item) (hx:XC w0 A c l x) (hy:XC w0 A c l y)
  (i least R B:Nat) (w:World) (L:List (List UInt8)) (ha:AtI (gns l) i (.mk 21 [] (n:Int) a [x,y])) (hb:Below w0.heap.size w0 w) (hR:w0.heap.size≤R) (hw:WrS w R B A l.length c L) (hL:L.length+(outX least (.mk 21 [] (n:Int) a [x,y])).length≤1000000) (_hle:least≤4) (hno:¬ aA n<least) :
  Calls Tryz.prog 138 #[.pointer (some ⟨R,0,none⟩),.int .i64 (i:Nat),.int .i64 (least:Nat)] w (nk w R B A l.length c (L ++ txt (outX least (.mk 21 [] (n:Int) a [x,y])))):=by
 obtain ⟨⟨a',hg⟩,hax,hay,_⟩:=ha
 obtain ⟨hil,b,o,A3,c3,rfl,x0,x1,x2,x3,x4,hc3,hks⟩:=bR h0 hb hg
 simp only [offs,List.map_cons,List.map_nil,List.length_nil,List.length_cons] at x0 x1 x2 x3 x4 hc3 hks
 rcases hks with hks | ⟨b3,o3,rfl,hks⟩
 ·cases hks
 have lb:=aa x0
 have hRw:R<w.heap.size:=Nat.lt_of_lt_of_le hw.lt hw.top
 have hRB:=hw.lt
 have htop:=hw.top
 have hi0:(0:Int)≤(i:Int):=by omega
 have hi1:(i:Int)<(l.length:Int):=by omega
 have r0:=hw.cell
 obtain ⟨htx,hlen⟩:=CJ a x y hno
 have hl3:=(kN n).2
 have hex1:=fun w2 L2 hb2 hw2 hL2=>hx (i+1) (aA n) R B w2 L2 hax hb2 hR hw2 hL2 (by omega)
 have hex2:=fun w2 L2 hb2 hw2 hL2=>hy (i+1+sizeI x) (aA n+1) R B w2 L2 hay hb2 hR hw2 hL2 (by omega)
 have e21:((aA n+1:Nat):Int)=((aA n:Nat):Int)+1:=by omega
 simp only [e21] at hex2
 have hk1:=hks 0 _ rfl
 have hk2:=hks 1 _ rfl
 obtain ⟨i1,hi1'⟩:∃ i1,i1=i+1:=⟨_,rfl⟩
 obtain ⟨i2,hi2'⟩:∃ i2,i2=i+1+sizeI x:=⟨_,rfl⟩
 rw [← hi2'] at hk2 hex2
 rw [← hi1'] at hk1 hex1
 clear e21
 have HE1:=Lib.hid hex1; have HE2:=Lib.hid hex2
 have HK1:=Lib.hid hk1; have HK2:=Lib.hid hk2
 have HW:=Lib.hid hw; have HL:=Lib.hid hL; have HB:=Lib.hid hb
 have HTX:=Lib.hid htx; have HLEN:=Lib.hid hlen
 have HM:=Lib.hid hm
 have HMG:=Lib.hid (xY hn1 hn2)
 have k1:decide (aA n<least)=false:=decide_eq_false hno
 clear hw hL h0 hg hb hks hc3 hax hay hex1 hex2 hk1 hk2 hi1' hi2' htx hlen hm hno
 go_enter Tryz.func138,Tryz.ntmps138
 go_wp2_with fail
 refine (kW n _).mono ?_; rintro e w1 ⟨rfl,rfl⟩
 have hb1:Blk (w.alloc (.cells #[.int .u8 21,.string ⟨#[]⟩,.int .i64 (n:Int),.int .i64 a',.slice (some ⟨b3,o3,none⟩) 2 c3] 43)) w.heap.size 43 #[.int .u8 21,.string ⟨#[]⟩,.int .i64 (n:Int),.int .i64 a',.slice (some ⟨b3,o3,none⟩) 2 c3]:=Blk.new w 43 _
 have HF1:=Lib.hid ((FrW.refl B R w).alloc (.cells #[.int .u8 21,.string ⟨#[]⟩,.int .i64 (n:Int),.int .i64 a',.slice (some ⟨b3,o3,none⟩) 2 c3] 43))
 have hB1:Below w0.heap.size w0 (w.alloc (.cells #[.int .u8 21,.string ⟨#[]⟩,.int .i64 (n:Int),.int .i64 a',.slice (some ⟨b3,o3,none⟩) 2 c3] 43)):=HB.out.alloc (by have:=HB.out.size; omega) _
 have k5:=(hB1.cell (p:=⟨b3,_,none⟩) (aa HK1.out)).trans HK1.out
 simp only [Nat.add_zero] at k5
 have lk5:=aa k5
 have k4:=hb1.cell 4
 have lk4:=hb1.lt
 have HB1:=Lib.hid hB1
 have HBL1:=Lib.hid hb1
 have HW1:=Lib.hid (HW.out.alloc (.cells #[.int .u8 21,.string ⟨#[]⟩,.int .i64 (n:Int),.int .i64 a',.slice (some ⟨b3,o3,none⟩) 2 c3] 43))
 have lX:R<w.heap.size:=hRw
 obtain ⟨X,hX⟩:∃ X,X=w.heap.size:=⟨_,rfl⟩
 rw [← hX] at HBL1 k4 lk4 lX ⊢
 have HXX:=Lib.hid hX
 clear hX hb1 hB1 x0 x1 x2 x3 x4 r0
 generalize w.alloc (.cells #[.int .u8 21,.string ⟨#[]⟩,.int .i64 (n:Int),.int .i64 a',.slice (some ⟨b3,o3,none⟩) 2 c3] 43)=W1 at *
 simp at k4
 go_wp2_with fail
 refine (HE1.out W1 _ HB1.out HW1.out (by have:=HL.out; have:=HLEN.out; omega)).mono ?_
 rintro e w3 ⟨rfl,hw3,hf3⟩
 have HW3:=Lib.hid hw3
 have HF3:=Lib.hid (HF1.out.trans hf3)
 have hb3:=hf3.blk HBL1.out (by omega) (by decide)
 have HBL3:=Lib.hid hb3
 have HB3:=Lib.hid (HB.out.trans (HF3.out.below hR (by omega) (by have:=HB.out.size; omega)))
 have c2:w3.cell? ⟨X,2,none⟩=some (.int .i64 (n:Int)):=hb3.cell 2
 have lk3:=hb3.lt
 clear hw3 hf3 hb3 k4 k5 lk5 lk4
 have hni0:(0:Int)≤(n:Int):=by omega
 have hni1:(n:Int)<15:=by omega
 go_wp2_with fail
 have hn15:n<15:=by omega
 have hS0:w3.drew.cell? ⟨X,2,none⟩=some (.int .i64 (n:Int)):=c2
 refine wp_region_held_drew (S:=fun w'=>w'.cell? ⟨X,2,none⟩=some (.int .i64 (n:Int))) (by kernel_rfl) hS0 (fun hS=>?_)
 refine wpAnyH_take (i:=0) (v:=.pointer (some ⟨R,0,none⟩)) rfl (by kernel_rfl) (by kernel_rfl) (by kernel_rfl) (fun _ _ _ h=>h) (Or.inl ⟨by rfl,?_⟩) hS ?_
 ·intro W hW
  go_simp
 simp only [Act.put,List.setIfInBounds_toArray]
 refine wpAnyH_take (i:=2) (v:=.pointer (some ⟨X,2,none⟩)) rfl (by kernel_rfl) (by kernel_rfl) (by kernel_rfl) (fun _ _ _ h=>h) (Or.inl ⟨by rfl,?_⟩) hS ?_
 ·intro W hW
  go_simp
 simp only [Act.put]
 refine wpAnyH_take (i:=3) (v:=.int .i64 (n:Int)) rfl (by kernel_rfl) (by kernel_rfl) (by kernel_rfl) (fun _ _ _ h=>h) (Or.inl ⟨by rfl,?_⟩) hS ?_
 ·intro W hW
  go_simp
 simp only [Act.put]
 refine wpAnyH_ready (rs:=[1]) (by kernel_rfl) (by simp) ?_
 refine AllReadyH.cons rfl (fun K hK=>?_) .nil
 go_simp
 change Calls Tryz.prog 178 #[.string mh,.string ⟨#[32]⟩] _ _
 refine (ug w3.drew m ((HB3.out.cell (p:=⟨3,0,none⟩) (aa HM.out)).trans HM.out)).mono ?_
 rintro e w4 ⟨rfl,hK4,hb4⟩
 have hc:w4.cell? ⟨w3.heap.size,n,none⟩=some (.string ⟨(bY n).toArray⟩):=by rw [← HMG.out]; exact oU hK4 n hn15
 have hb4':Below w3.heap.size w3 w4:=⟨hb4.os,hb4.tape,hb4.output,hb4.size,hb4.block⟩
 have e1:w4.cell? ⟨X,2,none⟩=some (.int .i64 (n:Int)):=Blk.cell (show Blk w4 X 43 _ from (hb4.block X lk3).trans HBL3.out) 2
 have e2:=aa hc
 have HF4:=Lib.hid (HF3.out.trans (.of hb4'))
 have HW4:=Lib.hid (HW3.out.below hb4')
 have HBL4:Hid (Blk w4 X 43 _):=Lib.hid ((hb4.block X lk3).trans HBL3.out)
 clear hb4 hb4' hK4
 refine hK.out _ _ e1 (fun hS4=>?_)
 clear hK
 refine wpAnyH_ready (rs:=[4]) (by kernel_rfl) (by simp) ?_
 refine AllReadyH.cons rfl (fun K hK=>?_) .nil
 go_simp
 refine hK.out _ _ hS4 (fun hS4=>?_)
 clear hK
 refine wpAnyH_ready (rs:=[5]) (by kernel_rfl) (by simp) ?_
 refine AllReadyH.cons rfl (fun K hK=>?_) .nil
 go_simp
 refine hK.out _ _ hS4 (fun hS4=>?_)
 clear hK
 refine wpAnyH_ready (rs:=[6]) (by kernel_rfl) (by simp) ?_
 refine AllReadyH.cons rfl (fun K hK=>?_) .nil
 go_simp
 have hS5:(w4.alloc (.cells #[.string ⟨(bY n).toArray⟩] 9)).cell? ⟨X,2,none⟩=some (.int .i64 (n:Int)):=Blk.cell (HBL4.out.alloc _) 2
 refine hK.out _ _ hS5 (fun _=>?_)
 clear hK
 refine wpAnyH_ready (rs:=[7]) (by kernel_rfl) (by simp) ?_
 refine AllReadyH.cons rfl (fun K hK=>?_) .nil
 go_simp
 refine (aP R B w4.heap.size 1 l.length c _ _ [bY n] _ (HW4.out.alloc _) (Blk.new w4 9 _) rfl (by omega) (by have:=HL.out; have:=HLEN.out; simp only [List.length_append,aD]; omega)).mono ?_
 rintro e w5 ⟨rfl,hw5,hf5⟩
 have hb5:=hf5.blk (HBL4.out.alloc _) (by omega) (by decide)
 have hS6:w5.cell? ⟨X,2,none⟩=some (.int .i64 (n:Int)):=hb5.cell 2
 refine hK.out _ _ hS6 (fun _=>?_)
 clear hK
 refine wpAnyH_done (by kernel_rfl) ?_ _
 have HW5:=Lib.hid hw5
 have HF5:=Lib.hid ((HF4.out.alloc _).trans hf5)
 have hB5:Below w0.heap.size w0 w5:=HB.out.trans (HF5.out.below hR (by omega) (by have:=HB.out.size; omega))
 have k4:w5.cell? ⟨X,4,none⟩=some (.slice (some ⟨b3,o3,none⟩) 2 c3):=hb5.cell 4
 have lk4:=hb5.lt
 have k5:=(hB5.cell (p:=⟨b3,_,none⟩) (aa HK2.out)).trans HK2.out
 have lk5:=aa k5
 have HB5:=Lib.hid hB5
 clear hw5 hf5 hb5 hB5 hS4 hS5 hS6 e1 e2 hc c2 lk3
 go_wp2_with fail
 refine (HE2.out w5 _ HB5.out HW5.out (by have:=HL.out; have:=HLEN.out; simp only [List.length_append,aD,List.length_cons,List.length_nil]; omega)).mono ?_
 rintro e w6 ⟨rfl,hw6,hf6⟩
 have HW6:=Lib.hid hw6
 have HF6:=Lib.hid (HF5.out.trans hf6)
 clear hw6 hf6
 go_wp2_with fail
 go_end0
 refine⟨rfl,?_,HF6.out⟩
 rw [HTX.out,← List.append_assoc,← List.append_assoc]
 exact HW6.out
end Go.Proofs.YtkkeocnnecegbaaGreatDoor
