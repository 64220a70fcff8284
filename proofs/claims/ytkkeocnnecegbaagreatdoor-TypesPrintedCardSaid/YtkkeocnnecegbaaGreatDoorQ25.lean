/- Joint text: TH2. By an AI agent. -/
import Derived.Test.YtkkeocnnecegbaaGreatDoorQ24
set_option linter.all false
set_option maxRecDepth 100000
set_option maxHeartbeats 64000000
namespace Go.Proofs.YtkkeocnnecegbaaGreatDoor
open Go.RowKit
theorem GX (w0:World) (n cc:Nat) (A:Option Addr) (l:List PV) (hT:bg w0 A l) (hn:n=l.length) (tc:List UInt8) (nc:Int) (pc:Nat) (r:List Item) (hc:NC w0 n cc A l (.mk 16 tc nc pc [])) (hk:∀ y∈r,NC w0 n cc A l y) (R OB B:Nat) (mn:Int) (va vf vs:Value) (s:TS) (i ck:Nat) (hc1:ck≠1) (Ak:Option Addr) (g:PV) (w:World) (hg:l[i]? = some g) (hgv:g.2=.slice Ak (r.length+1) ck) (hcap:r.length+1≤ck) (hat:AtL (gns l) (i+1) (.mk 16 tc nc pc [] :: r)) (hin:gU w0 Ak ((offs (i+1) (.mk 16 tc nc pc [] :: r)).map (fun k:Nat=>(k:Int)))) (hW:TW w0 w R OB B) (h:StT w R OB B n cc A mn s va vf vs) (hv:s.vars+(1+sizeL r)≤900000) (hsl:s.seen.length+(1+sizeL r)≤900000) (hal:s.ak.length≤900000) (hfl:s.fns.length≤900000) :
  Calls Tryz.prog 199 #[.pointer (some ⟨R,0,none⟩),.int .i64 i,gq g] w (fq R OB B n cc A l mn va vf s (1+sizeL r) w (if s.find g.1.text<0 then .error (some i,150) else callT i (i+1) (.mk 16 tc nc pc [] :: r) (s.put i (s.find g.1.text)))):=by
 rcases hin with h0 | ⟨b4,o4,rfl,h4⟩
 ·simp [offs] at h0
 have hnv:gq g=.agg #[.int .u8 g.1.kind,.string ⟨g.1.text.toArray⟩,.int .i64 g.1.n,.int .i64 g.1.at',.slice (some ⟨b4,o4,none⟩) (r.length+1) ck]:=by unfold gq; rw [hgv]
 rw [hnv]
 have hi:i<n:=by rw [hn]; exact (List.getElem?_eq_some_iff.1 hg).1
 obtain ⟨M,hM⟩:∃ M,M=r.length+1:=⟨_,rfl⟩
 rw [← hM] at hcap ⊢
 have k4:w0.cell? ⟨b4,o4,none⟩=some (.int .i64 ((i+1:Nat):Int)):=h4 0 _ rfl
 obtain ⟨T,hTT⟩:∃ T:ByteArray,T=⟨g.1.text.toArray⟩:=⟨_,rfl⟩
 have hTd:T.data.toList=g.1.text:=by rw [hTT]
 rw [← hTT]
 have lR:=h.rd.lt; have lO:=h.obl.lt
 have hb0:Below w.heap.size w (w.alloc (.cells #[.int .u8 g.1.kind,.string T,.int .i64 g.1.n,.int .i64 g.1.at',.slice (some ⟨b4,o4,none⟩) M ck] 43)):=(Below.refl _ _).alloc (Nat.le_refl _) _
 have HBX:Hid (Blk (w.alloc (.cells #[.int .u8 g.1.kind,.string T,.int .i64 g.1.n,.int .i64 g.1.at',.slice (some ⟨b4,o4,none⟩) M ck] 43)) w.heap.size 43 #[.int .u8 g.1.kind,.string T,.int .i64 g.1.n,.int .i64 g.1.at',.slice (some ⟨b4,o4,none⟩) M ck]):=Lib.hid (Blk.new _ _ _)
 have HFA:Hid (FrY R OB B w (w.alloc (.cells #[.int .u8 g.1.kind,.string T,.int .i64 g.1.n,.int .i64 g.1.at',.slice (some ⟨b4,o4,none⟩) M ck] 43))):=Lib.hid (.of hb0)
 have HSA:=Lib.hid (h.below hb0)
 have HWA:=Lib.hid (hW.next HFA.out)
 have HW0:=Lib.hid hW
 have HT:=Lib.hid hT; have HN:=Lib.hid hn; have HG:=Lib.hid hg; have HCN:=Lib.hid hc; have HKN:=Lib.hid hk; have HAT:=Lib.hid hat; have HTD:=Lib.hid hTd; have HM:=Lib.hid hM; have H4:=Lib.hid h4; have K4:=Lib.hid k4
 have HRO:Hid (w.heap.size≠R∧w.heap.size≠OB):=Lib.hid ⟨by omega,by omega⟩
 clear hT hn hg hc hk hat hTT hTd hM h4 k4 hnv hgv hb0 h hW
 obtain ⟨res,hres⟩:∃ res,res=(if s.find g.1.text<0 then .error (some i,150) else callT i (i+1) (.mk 16 tc nc pc [] :: r) (s.put i (s.find g.1.text))):=⟨_,rfl⟩
 rw [← hres]
 have HRS:=Lib.hid hres
 clear hres
 go_enter Tryz.func199,Tryz.ntmps199
 go_upto_region 1 with fail
 generalize w.alloc (.cells #[.int .u8 g.1.kind,.string T,.int .i64 g.1.n,.int .i64 g.1.at',.slice (some ⟨b4,o4,none⟩) M ck] 43)=wa at *
 have HSF:Hid (∀ W,FrY R OB B wa W→W.cell? ⟨w.heap.size,1,none⟩=some (.string T)∧W.cell? ⟨w.heap.size,4,none⟩=some (.slice (some ⟨b4,o4,none⟩) M ck)∧W.cell? ⟨b4,o4,none⟩=some (.int .i64 ((i+1:Nat):Int))):=Lib.hid (fun W f=>by
  have hb:=f.hi _ _ _ HBX.out HRO.out.1 HRO.out.2 ⟨by decide,by decide,by decide⟩
  exact⟨hb.cell 1,hb.cell 4,((HWA.out.next f).below.cell (p:=⟨b4,o4,none⟩) (aa K4.out)).trans K4.out⟩)
 have hM0:(0:Int)<(M:Int):=by have:=HM.out; omega
 have hdr:FrY R OB B wa wa.drew:=.of ((Below.refl _ _).drew)
 refine wp_region_held_drew (S:=fun W=>W.cell? ⟨w.heap.size,1,none⟩=some (.string T)∧W.cell? ⟨w.heap.size,4,none⟩=some (.slice (some ⟨b4,o4,none⟩) M ck)∧W.cell? ⟨b4,o4,none⟩=some (.int .i64 ((i+1:Nat):Int))) (by kernel_rfl) (HSF.out _ hdr) (fun hS=>?_)
 refine wpAnyH_take (i:=0) (v:=.pointer (some ⟨R,0,none⟩)) rfl (by kernel_rfl) (by kernel_rfl) (by kernel_rfl) (fun _ _ _ h=>h) (Or.inl ⟨by rfl,?_⟩) hS ?_
 ·rintro W ⟨hW1,hW2,hW3⟩
  go_simp
 simp only [Act.put,List.setIfInBounds_toArray]
 refine wpAnyH_take (i:=1) (v:=.int .i64 i) rfl (by kernel_rfl) (by kernel_rfl) (by kernel_rfl) (fun _ _ _ h=>h) (Or.inl ⟨by rfl,?_⟩) hS ?_
 ·rintro W ⟨hW1,hW2,hW3⟩
  go_simp
 simp only [Act.put]
 refine wpAnyH_take (i:=2) (v:=.pointer (some ⟨R,0,none⟩)) rfl (by kernel_rfl) (by kernel_rfl) (by kernel_rfl) (fun _ _ _ h=>h) (Or.inl ⟨by rfl,?_⟩) hS ?_
 ·rintro W ⟨hW1,hW2,hW3⟩
  go_simp
 simp only [Act.put]
 refine wpAnyH_take (i:=3) (v:=.pointer (some ⟨w.heap.size,1,none⟩)) rfl (by kernel_rfl) (by kernel_rfl) (by kernel_rfl) (fun _ _ _ h=>h) (Or.inl ⟨by rfl,?_⟩) hS ?_
 ·rintro W ⟨hW1,hW2,hW3⟩
  go_simp
 simp only [Act.put]
 refine wpAnyH_take (i:=4) (v:=.string T) rfl (by kernel_rfl) (by kernel_rfl) (by kernel_rfl) (fun _ _ _ h=>h) (Or.inl ⟨by rfl,?_⟩) hS ?_
 ·rintro W ⟨hW1,hW2,hW3⟩
  go_simp
 simp only [Act.put]
 refine wpAnyH_take (i:=7) (v:=.pointer (some ⟨R,0,none⟩)) rfl (by kernel_rfl) (by kernel_rfl) (by kernel_rfl) (fun _ _ _ h=>h) (Or.inl ⟨by rfl,?_⟩) hS ?_
 ·rintro W ⟨hW1,hW2,hW3⟩
  go_simp
 simp only [Act.put]
 refine wpAnyH_take (i:=8) (v:=.pointer (some ⟨w.heap.size,4,none⟩)) rfl (by kernel_rfl) (by kernel_rfl) (by kernel_rfl) (fun _ _ _ h=>h) (Or.inl ⟨by rfl,?_⟩) hS ?_
 ·rintro W ⟨hW1,hW2,hW3⟩
  go_simp
 simp only [Act.put]
 refine wpAnyH_take (i:=9) (v:=.slice (some ⟨b4,o4,none⟩) M ck) rfl (by kernel_rfl) (by kernel_rfl) (by kernel_rfl) (fun _ _ _ h=>h) (Or.inl ⟨by rfl,?_⟩) hS ?_
 ·rintro W ⟨hW1,hW2,hW3⟩
  go_simp
 simp only [Act.put]
 refine wpAnyH_take (i:=10) (v:=.pointer (some ⟨b4,o4,none⟩)) rfl (by kernel_rfl) (by kernel_rfl) (by kernel_rfl) (fun _ _ _ h=>h) (Or.inl ⟨by rfl,?_⟩) hS ?_
 ·rintro W ⟨hW1,hW2,hW3⟩
  go_simp
  intro h0; exfalso; omega
 simp only [Act.put]
 refine wpAnyH_take (i:=11) (v:=.int .i64 ((i+1:Nat):Int)) rfl (by kernel_rfl) (by kernel_rfl) (by kernel_rfl) (fun _ _ _ h=>h) (Or.inl ⟨by rfl,?_⟩) hS ?_
 ·rintro W ⟨hW1,hW2,hW3⟩
  go_simp
 simp only [Act.put]
 refine wpAnyH_ready (rs:=[5]) (by kernel_rfl) (by simp) ?_
 refine AllReadyH.cons rfl (fun K hK=>?_) .nil
 go_simp
 have HS1:=Lib.hid (HSA.out.below ((Below.refl wa.heap.size wa).drew))
 refine (jN HS1.out T (by omega)).mono ?_
 rw [HTD.out]
 rintro e w1 ⟨rfl,hb1⟩
 have HF1:Hid (FrY R OB B wa w1):=Lib.hid (hdr.trans (.of hb1))
 have HS1':=Lib.hid (HS1.out.below hb1)
 have hS1:=HSF.out _ HF1.out
 refine hK.out _ _ hS1 (fun _=>?_)
 clear hK hS hb1 HS1
 refine wpAnyH_ready (rs:=[6]) (by kernel_rfl) (by simp) ?_
 refine AllReadyH.cons rfl (fun K hK=>?_) .nil
 go_simp
 refine (iU HT.out HN.out (HWA.out.next HF1.out) HS1'.out i hi (s.find g.1.text)).mono ?_
 rintro e w2 ⟨hf2,hs2,u,rfl,hu⟩
 have HF2:Hid (FrY R OB B wa w2):=Lib.hid (HF1.out.trans hf2)
 have HS2:=Lib.hid hs2
 have HS2L:Hid ((s.put i (s.find g.1.text)).of.length=n):=Lib.hid hs2.ofn
 have HU:=Lib.hid hu
 have IU:Hid (iO u):=Lib.hid (by
  by_cases hf:s.find g.1.text<0
  ·rw [if_pos hf] at hu; obtain ⟨p,hp⟩:=hu.isErr; exact Or.inr ⟨p,hp⟩
  ·rw [if_neg hf] at hu; exact Or.inl hu)
 have hS2:=HSF.out _ HF2.out
 refine hK.out _ _ hS2 (fun _=>?_)
 clear hK hS1 hf2 hs2 hu HS1' HF1
 refine wpAnyH_ready (rs:=[12]) (by kernel_rfl) (by simp) ?_
 refine AllReadyH.cons rfl (fun K hK=>?_) .nil
 go_simp
 refine (HCN.out R OB B mn va vf vs (s.put i (s.find g.1.text)) (i+1) w2 HAT.out.1 (HWA.out.next HF2.out) HS2.out (by show s.vars+_≤_; simp only [sizeI,sizeL]; omega) (by show s.seen.length+_≤_; simp only [sizeI,sizeL]; omega) hal hfl).mono ?_
 rintro e w3 ⟨hf3,s3,vs3,v3,hs3,ha3,hfn3,hmo3,hv3,hl3,rfl,hres3⟩
 have HF3:Hid (FrY R OB B wa w3):=Lib.hid (HF2.out.trans hf3)
 have HS3:=Lib.hid hs3
 have HRES:=Lib.hid hres3
 have IV:Hid (iO v3):=Lib.hid (by
  cases hnode:nodeT (i+1) (.mk 16 tc nc pc []) (s.put i (s.find g.1.text)) with
  | error q=>rw [hnode] at hres3; obtain ⟨p,hp⟩:=aF.isErr hres3; exact Or.inr ⟨p,hp⟩
  | ok s1=>rw [hnode] at hres3; exact Or.inl hres3.2)
 have HB3:Hid (s3.ak=s.ak∧s3.fns=s.fns∧(∃ more,s3.seen=s.seen ++ more)∧s3.vars≤s.vars+1∧s3.seen.length≤s.seen.length+1):=Lib.hid ⟨ha3,hfn3,hmo3,hv3,hl3⟩
 have HU3:Hid (if s.find g.1.text<0 then aF l w3 R OB (some i) 150 u else u=.nilIface):=Lib.hid (by
  have:=HU.out
  by_cases hf:s.find g.1.text<0
  ·rw [if_pos hf] at this ⊢; exact this.next hf3
  ·rw [if_neg hf] at this ⊢; exact this)
 have hS3:=HSF.out _ HF3.out
 refine hK.out _ _ hS3 (fun _=>?_)
 clear hK hS2 hf3 hs3 ha3 hfn3 hmo3 hv3 hl3 hres3 HS2 HU HF2
 by_cases hf:s.find g.1.text<0
 ·have HFF:=Lib.hid hf
  have hu:=HU3.out
  rw [if_pos hf] at hu
  obtain ⟨p,rfl⟩:=aF.isErr hu
  have HE:Hid (aF l w3 R OB (some i) 150 (.iface 121 (.pointer p))):=Lib.hid hu
  clear hu HU3 IU
  rcases IV.out with rfl | ⟨p2,rfl⟩
  ·clear IV HRES
   refine wpAnyH_ready (rs:=[13]) (by kernel_rfl) (by simp) ?_
   refine AllReadyH.cons rfl (fun K hK=>?_) .nil
   go_simp
   have hb4:Below w3.heap.size w3 (w3.alloc (.cells #[.iface 121 (.pointer p),.nilIface] 108)):=(Below.refl _ _).alloc (Nat.le_refl _) _
   have HF4:Hid (FrY R OB B wa (w3.alloc (.cells #[.iface 121 (.pointer p),.nilIface] 108))):=Lib.hid (HF3.out.trans (.of hb4))
   have hS4:=HSF.out _ HF4.out
   refine hK.out _ _ hS4 (fun _=>?_)
   clear hK hS3
   refine wpAnyH_ready (rs:=[14]) (by kernel_rfl) (by simp) ?_
   refine AllReadyH.cons rfl (fun K hK=>?_) .nil
   go_simp
   refine (ek w3.heap.size 2 (.iface 121 (.pointer p)) (.nilIface) (w3.alloc (.cells #[.iface 121 (.pointer p),.nilIface] 108)) (Or.inr ⟨_,rfl⟩) (Or.inl rfl) ((Blk.new w3 108 #[.iface 121 (.pointer p),.nilIface]).cell 0) ((Blk.new w3 108 #[.iface 121 (.pointer p),.nilIface]).cell 1)).mono ?_
   rintro e w5 ⟨rfl,rfl⟩
   refine hK.out _ _ hS4 (fun _=>?_)
   clear hK
   refine wpAnyH_ready (rs:=[15]) (by kernel_rfl) (by simp) ?_
   refine AllReadyH.cons rfl (fun K hK=>?_) .nil
   go_simp
   refine hK.out _ _ hS4 (fun _=>?_)
   clear hK
   refine wpAnyH_done (by kernel_rfl) ?_ _
   have HS4:=Lib.hid (HS3.out.below hb4)
   have HE4:=Lib.hid (fun i c v (h:aF l w3 R OB i c v)=>aF.next (B:=B) h (.of hb4))
   clear HS3 HF3 hb4
   generalize w3.alloc (.cells #[.iface 121 (.pointer p),.nilIface] 108)=w4 at *
   have HFW:Hid (FrY R OB B w w4):=Lib.hid (HFA.out.trans HF4.out)
   unfold bO
   go_wp2_with fail
   go_ret
   obtain ⟨b1,b2,b3,b4,b5⟩:=HB3.out
   rw [HRS.out,if_pos HFF.out]
   exact⟨HFW.out,s3,vs3,.iface 121 (.pointer p),HS4.out,b1,b2,b3,by omega,by omega,rfl,HE4.out _ _ _ HE.out⟩
  ·clear IV HRES
   refine wpAnyH_ready (rs:=[13]) (by kernel_rfl) (by simp) ?_
   refine AllReadyH.cons rfl (fun K hK=>?_) .nil
   go_simp
   have hb4:Below w3.heap.size w3 (w3.alloc (.cells #[.iface 121 (.pointer p),.iface 121 (.pointer p2)] 108)):=(Below.refl _ _).alloc (Nat.le_refl _) _
   have HF4:Hid (FrY R OB B wa (w3.alloc (.cells #[.iface 121 (.pointer p),.iface 121 (.pointer p2)] 108))):=Lib.hid (HF3.out.trans (.of hb4))
   have hS4:=HSF.out _ HF4.out
   refine hK.out _ _ hS4 (fun _=>?_)
   clear hK hS3
   refine wpAnyH_ready (rs:=[14]) (by kernel_rfl) (by simp) ?_
   refine AllReadyH.cons rfl (fun K hK=>?_) .nil
   go_simp
   refine (ek w3.heap.size 2 (.iface 121 (.pointer p)) (.iface 121 (.pointer p2)) (w3.alloc (.cells #[.iface 121 (.pointer p),.iface 121 (.pointer p2)] 108)) (Or.inr ⟨_,rfl⟩) (Or.inr ⟨_,rfl⟩) ((Blk.new w3 108 #[.iface 121 (.pointer p),.iface 121 (.pointer p2)]).cell 0) ((Blk.new w3 108 #[.iface 121 (.pointer p),.iface 121 (.pointer p2)]).cell 1)).mono ?_
   rintro e w5 ⟨rfl,rfl⟩
   refine hK.out _ _ hS4 (fun _=>?_)
   clear hK
   refine wpAnyH_ready (rs:=[15]) (by kernel_rfl) (by simp) ?_
   refine AllReadyH.cons rfl (fun K hK=>?_) .nil
   go_simp
   refine hK.out _ _ hS4 (fun _=>?_)
   clear hK
   refine wpAnyH_done (by kernel_rfl) ?_ _
   have HS4:=Lib.hid (HS3.out.below hb4)
   have HE4:=Lib.hid (fun i c v (h:aF l w3 R OB i c v)=>aF.next (B:=B) h (.of hb4))
   clear HS3 HF3 hb4
   generalize w3.alloc (.cells #[.iface 121 (.pointer p),.iface 121 (.pointer p2)] 108)=w4 at *
   have HFW:Hid (FrY R OB B w w4):=Lib.hid (HFA.out.trans HF4.out)
   unfold bO
   go_wp2_with fail
   go_ret
   obtain ⟨b1,b2,b3,b4,b5⟩:=HB3.out
   rw [HRS.out,if_pos HFF.out]
   exact⟨HFW.out,s3,vs3,.iface 121 (.pointer p),HS4.out,b1,b2,b3,by omega,by omega,rfl,HE4.out _ _ _ HE.out⟩
 ·have HFF:=Lib.hid hf
  have hu:=HU3.out
  rw [if_neg hf] at hu
  subst hu
  clear HU3 IU
  cases hnode:nodeT (i+1) (.mk 16 tc nc pc []) (s.put i (s.find g.1.text)) with
  | error q =>
   have hr:=HRES.out
   rw [hnode] at hr
   obtain ⟨q1,q2⟩:=q
   obtain ⟨p,rfl⟩:=aF.isErr hr
   have HE:Hid (aF l w3 R OB q1 q2 (.iface 121 (.pointer p))):=Lib.hid hr
   have HM2:Hid (callT i (i+1) (.mk 16 tc nc pc [] :: r) (s.put i (s.find g.1.text))=.error (q1,q2)):=Lib.hid (by unfold callT; rw [hnode]; rfl)
   clear hr hnode HRES IV
   refine wpAnyH_ready (rs:=[13]) (by kernel_rfl) (by simp) ?_
   refine AllReadyH.cons rfl (fun K hK=>?_) .nil
   go_simp
   have hb4:Below w3.heap.size w3 (w3.alloc (.cells #[.nilIface,.iface 121 (.pointer p)] 108)):=(Below.refl _ _).alloc (Nat.le_refl _) _
   have HF4:Hid (FrY R OB B wa (w3.alloc (.cells #[.nilIface,.iface 121 (.pointer p)] 108))):=Lib.hid (HF3.out.trans (.of hb4))
   have hS4:=HSF.out _ HF4.out
   refine hK.out _ _ hS4 (fun _=>?_)
   clear hK hS3
   refine wpAnyH_ready (rs:=[14]) (by kernel_rfl) (by simp) ?_
   refine AllReadyH.cons rfl (fun K hK=>?_) .nil
   go_simp
   refine (ek w3.heap.size 2 (.nilIface) (.iface 121 (.pointer p)) (w3.alloc (.cells #[.nilIface,.iface 121 (.pointer p)] 108)) (Or.inl rfl) (Or.inr ⟨_,rfl⟩) ((Blk.new w3 108 #[.nilIface,.iface 121 (.pointer p)]).cell 0) ((Blk.new w3 108 #[.nilIface,.iface 121 (.pointer p)]).cell 1)).mono ?_
   rintro e w5 ⟨rfl,rfl⟩
   refine hK.out _ _ hS4 (fun _=>?_)
   clear hK
   refine wpAnyH_ready (rs:=[15]) (by kernel_rfl) (by simp) ?_
   refine AllReadyH.cons rfl (fun K hK=>?_) .nil
   go_simp
   refine hK.out _ _ hS4 (fun _=>?_)
   clear hK
   refine wpAnyH_done (by kernel_rfl) ?_ _
   have HS4:=Lib.hid (HS3.out.below hb4)
   have HE4:=Lib.hid (fun i c v (h:aF l w3 R OB i c v)=>aF.next (B:=B) h (.of hb4))
   clear HS3 HF3 hb4
   generalize w3.alloc (.cells #[.nilIface,.iface 121 (.pointer p)] 108)=w4 at *
   have HFW:Hid (FrY R OB B w w4):=Lib.hid (HFA.out.trans HF4.out)
   unfold bO
   go_wp2_with fail
   go_ret
   obtain ⟨b1,b2,b3,b4,b5⟩:=HB3.out
   rw [HRS.out,if_neg (by have:=HFF.out; omega),HM2.out]
   exact⟨HFW.out,s3,vs3,.iface 121 (.pointer p),HS4.out,b1,b2,b3,by omega,by omega,rfl,HE4.out _ _ _ HE.out⟩
  | ok s1 =>
   have hr:=HRES.out
   rw [hnode] at hr
   obtain ⟨rfl,rfl⟩:=hr
   have HND:=Lib.hid hnode
   clear hnode HRES IV
   refine wpAnyH_ready (rs:=[13]) (by kernel_rfl) (by simp) ?_
   refine AllReadyH.cons rfl (fun K hK=>?_) .nil
   go_simp
   have hb4:Below w3.heap.size w3 (w3.alloc (.cells #[.nilIface,.nilIface] 108)):=(Below.refl _ _).alloc (Nat.le_refl _) _
   have HF4:Hid (FrY R OB B wa (w3.alloc (.cells #[.nilIface,.nilIface] 108))):=Lib.hid (HF3.out.trans (.of hb4))
   have hS4:=HSF.out _ HF4.out
   refine hK.out _ _ hS4 (fun _=>?_)
   clear hK hS3
   refine wpAnyH_ready (rs:=[14]) (by kernel_rfl) (by simp) ?_
   refine AllReadyH.cons rfl (fun K hK=>?_) .nil
   go_simp
   refine (ek w3.heap.size 2 (.nilIface) (.nilIface) (w3.alloc (.cells #[.nilIface,.nilIface] 108)) (Or.inl rfl) (Or.inl rfl) ((Blk.new w3 108 #[.nilIface,.nilIface]).cell 0) ((Blk.new w3 108 #[.nilIface,.nilIface]).cell 1)).mono ?_
   rintro e w5 ⟨rfl,rfl⟩
   refine hK.out _ _ hS4 (fun _=>?_)
   clear hK
   refine wpAnyH_ready (rs:=[15]) (by kernel_rfl) (by simp) ?_
   refine AllReadyH.cons rfl (fun K hK=>?_) .nil
   go_simp
   refine hK.out _ _ hS4 (fun _=>?_)
   clear hK
   refine wpAnyH_done (by kernel_rfl) ?_ _
   have HS4:=Lib.hid (HS3.out.below hb4)
   have HE4:=Lib.hid (fun i c v (h:aF l w3 R OB i c v)=>aF.next (B:=B) h (.of hb4))
   clear HS3 HF3 hb4
   generalize w3.alloc (.cells #[.nilIface,.nilIface] 108)=w4 at *
   have HFW:Hid (FrY R OB B w w4):=Lib.hid (HFA.out.trans HF4.out)
   unfold bO
   obtain ⟨kv1,kv2,k,f,hfk,hofk,hpar⟩:=vO HND.out (show i+1<(s.put i (s.find g.1.text)).of.length by
    have h1:=HAT.out.1.lt
    have h2:=HS2L.out
    rw [dA,← HN.out] at h1
    omega)
   obtain ⟨A2,c2,rfl,hfr⟩:=HS4.out.fnR
   obtain ⟨bf,of',rfl,z0,zk⟩:=hfr.at (nM (f:=fnV) hfk)
   have z1:=zk 0 _ rfl
   have z2:=zk 1 _ rfl
   have z3:=zk 2 _ rfl
   simp only [fnV] at z0 z1 z2 z3
   have lz:=aa z0
   have hkl:=(List.getElem?_eq_some_iff.1 hfk).1
   have k2:w4.cell? ⟨R,2,none⟩=some (.slice (some ⟨bf,of',none⟩) s3.fns.length c2):=HS4.out.rd.cell 2
   have k4:w4.cell? ⟨R,4,none⟩=some (.slice (some ⟨OB,0,none⟩) n n):=HS4.out.rd.cell 4
   have ko:w4.cell? ⟨OB,i+1,none⟩=some (.int .i64 (k:Int)):=by
    rw [HS4.out.obl.cell (i+1)]
    simp [hofk]
   have hin1:i+1<n:=by
    have h1:=HAT.out.1.lt
    rw [dA,← HN.out] at h1
    exact h1
   obtain ⟨p1,p4,pk⟩:=HSF.out _ HF4.out
   have lP:=aa p4; have lK:=aa pk
   have lR4:=HS4.out.rd.lt; have lO4:=HS4.out.obl.lt
   have hi1:(i:Int)+1<(n:Int):=by omega
   have hi2:(0:Int)≤(i:Int)+1:=by omega
   have hk1:(k:Int)<(s3.fns.length:Int):=by omega
   have hM1:(1:Int)≤(M:Int):=by omega
   have hck:(M:Int)≤(ck:Int):=by omega
   have HPAR:=Lib.hid hpar; have HV1:=Lib.hid kv1; have HV2:=Lib.hid kv2
   clear hfr zk hofk hpar kv1 kv2 hfk
   generalize s3.fns.length=fl at *
   have hc2:((ck:Int) - 1 == 0)=false:=by simp; omega
   go_upto_region 5 with fail
   go_region
   have hbx:Below w4.heap.size w4 (w4.alloc (.cells #[.string ⟨f.name.toArray⟩,.int .i64 f.params,.int .i64 (f.vars:Int),.int .i64 (f.root:Int)] 72)).drew:=((Below.refl _ _).alloc (Nat.le_refl _) _).drew
   have HBF:Hid (Blk (w4.alloc (.cells #[.string ⟨f.name.toArray⟩,.int .i64 f.params,.int .i64 (f.vars:Int),.int .i64 (f.root:Int)] 72)).drew w4.heap.size 72 #[.string ⟨f.name.toArray⟩,.int .i64 f.params,.int .i64 (f.vars:Int),.int .i64 (f.root:Int)]):=Lib.hid (Blk.new w4 72 _)
   have HS5:=Lib.hid (HS4.out.below hbx)
   have HF5:Hid (FrY R OB B w (w4.alloc (.cells #[.string ⟨f.name.toArray⟩,.int .i64 f.params,.int .i64 (f.vars:Int),.int .i64 (f.root:Int)] 72)).drew):=Lib.hid (HFW.out.trans (.of hbx))
   clear hbx z0 z1 z2 z3 lz k2 k4 ko p1 p4 pk lP lK lR4 lO4 HSF
   generalize (w4.alloc (.cells #[.string ⟨f.name.toArray⟩,.int .i64 f.params,.int .i64 (f.vars:Int),.int .i64 (f.root:Int)] 72)).drew=w5 at *
   obtain ⟨XF,hXF⟩:∃ X,X=w4.heap.size:=⟨_,rfl⟩
   rw [← hXF] at HBF ⊢
   clear hXF
   have q1:w5.cell? ⟨XF,1,none⟩=some (.int .i64 f.params):=HBF.out.cell 1
   have lq:=aa q1
   have HIN:Hid (gU w0 (some ⟨b4,o4+1,none⟩) ((offs (i+1+sizeI (.mk 16 tc nc pc [])) r).map (fun k:Nat=>(k:Int)))):=Lib.hid (Or.inr ⟨b4,o4+1,rfl,fun j k hj=>by have h5:=H4.out (j+1) k hj; rw [show o4+(j+1)=o4+1+j by omega] at h5; exact h5⟩)
   have HAL:=Lib.hid (fun W (hS:StT W R OB B n cc A mn s3 va (.slice (some ⟨bf,of',none⟩) fl c2) vs3) (f:FrY R OB B w W)=>fB w0 n cc A l r HKN.out R OB B mn va (.slice (some ⟨bf,of',none⟩) fl c2) vs3 s3 (i+1+sizeI (.mk 16 tc nc pc [])) (ck - 1) (some ⟨b4,o4+1,none⟩) W HAT.out.2 HIN.out (HW0.out.next f) hS (by have:=HB3.out.2.2.2.1; omega) (by have:=HB3.out.2.2.2.2; omega) (by rw [HB3.out.1]; exact hal) (by rw [HB3.out.2.1]; exact hfl))
   have HRL:Hid ((M - 1)=r.length):=Lib.hid (by have h1:=HM.out; omega)
   rw [← HRL.out] at HAL
   by_cases hp:f.params=(((M - 1):Nat):Int)
   ·have HPP:=Lib.hid hp
    have HCT:Hid (callT i (i+1) (.mk 16 tc nc pc [] :: r) (s.put i (s.find g.1.text))=allT (i+1+sizeI (.mk 16 tc nc pc [])) r s3):=Lib.hid (by
     unfold callT
     rw [HND.out]
     show (if s3.iH (i+1)≠(r.length:Int) then _ else _)=_
     rw [HPAR.out,← HRL.out,if_neg (by simp [hp])])
    rw [hp] at q1
    clear hp
    go_wp2_with fail
    refine (mr _ _ _ _).mono ?_
    rintro e w6 ⟨rfl,rfl⟩
    go_wp2_with fail
    refine (HAL.out _ HS5.out HF5.out).mono ?_
    rintro e w7 ⟨hf7,s7,vs7,v7,hs7,ha7,hfn7,hmo7,hv7,hl7,rfl,hr7⟩
    have HF7:=Lib.hid (HF5.out.trans hf7); have HS7:=Lib.hid hs7
    have HB7:Hid (s7.ak=s.ak∧s7.fns=s.fns∧(∃ more,s7.seen=s.seen ++ more)∧s7.vars≤s.vars+(1+sizeL r)∧s7.seen.length≤s.seen.length+(1+sizeL r)):=Lib.hid (by
     obtain ⟨c1,c2',⟨m1,c3⟩,c4,c5⟩:=HB3.out
     obtain ⟨m2,hm2⟩:=hmo7
     exact⟨ha7.trans c1,hfn7.trans c2',⟨m1 ++ m2,by rw [hm2,c3,List.append_assoc]⟩,by omega,by omega⟩)
    clear hf7 hs7 ha7 hfn7 hmo7 hv7 hl7
    cases hall:allT (i+1+sizeI (.mk 16 tc nc pc [])) r s3 with
    | error q =>
     rw [hall] at hr7
     obtain ⟨q1',q2'⟩:=q
     obtain ⟨p,rfl⟩:=aF.isErr hr7
     have HE7:Hid (aF l w7 R OB q1' q2' (.iface 121 (.pointer p))):=Lib.hid hr7
     have HCT:Hid (callT i (i+1) (.mk 16 tc nc pc [] :: r) (s.put i (s.find g.1.text))=.error (q1',q2')):=Lib.hid (HCT.out.trans hall)
     clear hr7 hall
     go_wp2_with fail
     have hb8:Below w7.heap.size w7 (w7.alloc (.cells #[.nilIface,.iface 121 (.pointer p)] 108)):=(Below.refl _ _).alloc (Nat.le_refl _) _
     refine (ek w7.heap.size 2 (.nilIface) (.iface 121 (.pointer p)) (w7.alloc (.cells #[.nilIface,.iface 121 (.pointer p)] 108)) (Or.inl rfl) (Or.inr ⟨_,rfl⟩) ((Blk.new w7 108 #[.nilIface,.iface 121 (.pointer p)]).cell 0) ((Blk.new w7 108 #[.nilIface,.iface 121 (.pointer p)]).cell 1)).mono ?_
     rintro e w8 ⟨rfl,rfl⟩
     have HS8:=Lib.hid (HS7.out.below hb8)
     have HF8:Hid (FrY R OB B w (w7.alloc (.cells #[.nilIface,.iface 121 (.pointer p)] 108))):=Lib.hid (HF7.out.trans (.of hb8))
     have HE8:=Lib.hid (fun i c v (h:aF l w7 R OB i c v)=>aF.next (B:=B) h (.of hb8))
     clear HS7 HF7 hb8
     unfold bO
     go_wp2_with fail
     go_ret
     obtain ⟨b1,b2,b3,b4',b5⟩:=HB7.out
     rw [HRS.out,if_neg (by have:=HFF.out; omega),HCT.out]
     exact⟨HF8.out,s7,vs7,.iface 121 (.pointer p),HS8.out,b1,b2,b3,b4',b5,rfl,HE8.out _ _ _ HE7.out⟩
    | ok s8 =>
     rw [hall] at hr7
     obtain ⟨rfl,rfl⟩:=hr7
     have HCT:Hid (callT i (i+1) (.mk 16 tc nc pc [] :: r) (s.put i (s.find g.1.text))=.ok s7):=Lib.hid (HCT.out.trans hall)
     clear hall
     go_wp2_with fail
     have hb8:Below w7.heap.size w7 (w7.alloc (.cells #[.nilIface,.nilIface] 108)):=(Below.refl _ _).alloc (Nat.le_refl _) _
     refine (ek w7.heap.size 2 (.nilIface) (.nilIface) (w7.alloc (.cells #[.nilIface,.nilIface] 108)) (Or.inl rfl) (Or.inl rfl) ((Blk.new w7 108 #[.nilIface,.nilIface]).cell 0) ((Blk.new w7 108 #[.nilIface,.nilIface]).cell 1)).mono ?_
     rintro e w8 ⟨rfl,rfl⟩
     have HS8:=Lib.hid (HS7.out.below hb8)
     have HF8:Hid (FrY R OB B w (w7.alloc (.cells #[.nilIface,.nilIface] 108))):=Lib.hid (HF7.out.trans (.of hb8))
     have HE8:=Lib.hid (fun i c v (h:aF l w7 R OB i c v)=>aF.next (B:=B) h (.of hb8))
     clear HS7 HF7 hb8
     unfold bO
     go_wp2_with fail
     go_ret
     obtain ⟨b1,b2,b3,b4',b5⟩:=HB7.out
     rw [HRS.out,if_neg (by have:=HFF.out; omega),HCT.out]
     exact⟨HF8.out,s7,vs7,.nilIface,HS8.out,b1,b2,b3,b4',b5,rfl,⟨rfl,rfl⟩⟩
   ·have hpb:(f.params != (((M - 1):Nat):Int))=true:=by simpa using hp
    have HPP:=Lib.hid hp
    have HCT:Hid (callT i (i+1) (.mk 16 tc nc pc [] :: r) (s.put i (s.find g.1.text))=.error (some i,152)):=Lib.hid (by
     unfold callT
     rw [HND.out]
     show (if s3.iH (i+1)≠(r.length:Int) then _ else _)=_
     rw [HPAR.out,← HRL.out,if_pos hp])
    clear hp
    have r0:w5.cell? ⟨R,0,none⟩=some (.slice A n cc):=HS5.out.rd.cell 0
    have HFY:=Lib.hid (kT R n cc i 152 A l g w5 r0 (HT.out.below (HW0.out.next HF5.out).below) HN.out HG.out)
    clear r0
    go_wp2_with fail
    refine HFY.out.mono ?_
    rintro e w6 ⟨rfl,rfl⟩
    have hb6:Below w5.heap.size w5 (w5.alloc (.cells #[.int .i64 g.1.at',.iface 31 (.int .i64 152)] 126)):=(Below.refl _ _).alloc (Nat.le_refl _) _
    have HE6:Hid (aF l (w5.alloc (.cells #[.int .i64 g.1.at',.iface 31 (.int .i64 152)] 126)) R OB (some i) 152 (.iface 121 (.pointer (some ⟨w5.heap.size,0,none⟩)))):=Lib.hid (aF.mk HG.out HS5.out.rd.lt HS5.out.obl.lt)
    have HS6:=Lib.hid (HS5.out.below hb6)
    have HF6:Hid (FrY R OB B w (w5.alloc (.cells #[.int .i64 g.1.at',.iface 31 (.int .i64 152)] 126))):=Lib.hid (HF5.out.trans (.of hb6))
    clear HFY hb6 q1 lq HBF
    generalize (some ⟨w5.heap.size,0,none⟩:Option Addr)=pf at *
    generalize w5.alloc (.cells #[.int .i64 g.1.at',.iface 31 (.int .i64 152)] 126)=w6 at *
    go_wp2_with fail
    refine (HAL.out _ HS6.out HF6.out).mono ?_
    rintro e w7 ⟨hf7,s7,vs7,v7,hs7,ha7,hfn7,hmo7,hv7,hl7,rfl,hr7⟩
    have HF7:=Lib.hid (HF6.out.trans hf7); have HS7:=Lib.hid hs7
    have HE7:=Lib.hid (aF.next HE6.out hf7)
    have HB7:Hid (s7.ak=s.ak∧s7.fns=s.fns∧(∃ more,s7.seen=s.seen ++ more)∧s7.vars≤s.vars+(1+sizeL r)∧s7.seen.length≤s.seen.length+(1+sizeL r)):=Lib.hid (by
     obtain ⟨c1,c2',⟨m1,c3⟩,c4,c5⟩:=HB3.out
     obtain ⟨m2,hm2⟩:=hmo7
     exact⟨ha7.trans c1,hfn7.trans c2',⟨m1 ++ m2,by rw [hm2,c3,List.append_assoc]⟩,by omega,by omega⟩)
    clear hf7 hs7 ha7 hfn7 hmo7 hv7 hl7
    have IV7:iO v7:=by
     cases hall:allT (i+1+sizeI (.mk 16 tc nc pc [])) r s3 with
     | error q=>rw [hall] at hr7; obtain ⟨p,hp⟩:=aF.isErr hr7; exact Or.inr ⟨p,hp⟩
     | ok s1=>rw [hall] at hr7; exact Or.inl hr7.2
    clear hr7
    rcases IV7 with rfl | ⟨p,rfl⟩
    ·go_wp2_with fail
     have hb8:Below w7.heap.size w7 (w7.alloc (.cells #[.iface 121 (.pointer pf),.nilIface] 108)):=(Below.refl _ _).alloc (Nat.le_refl _) _
     refine (ek w7.heap.size 2 (.iface 121 (.pointer pf)) (.nilIface) (w7.alloc (.cells #[.iface 121 (.pointer pf),.nilIface] 108)) (Or.inr ⟨_,rfl⟩) (Or.inl rfl) ((Blk.new w7 108 #[.iface 121 (.pointer pf),.nilIface]).cell 0) ((Blk.new w7 108 #[.iface 121 (.pointer pf),.nilIface]).cell 1)).mono ?_
     rintro e w8 ⟨rfl,rfl⟩
     have HS8:=Lib.hid (HS7.out.below hb8)
     have HF8:Hid (FrY R OB B w (w7.alloc (.cells #[.iface 121 (.pointer pf),.nilIface] 108))):=Lib.hid (HF7.out.trans (.of hb8))
     have HE8:=Lib.hid (fun i c v (h:aF l w7 R OB i c v)=>aF.next (B:=B) h (.of hb8))
     clear HS7 HF7 hb8
     unfold bO
     go_wp2_with fail
     go_ret
     obtain ⟨b1,b2,b3,b4',b5⟩:=HB7.out
     rw [HRS.out,if_neg (by have:=HFF.out; omega),HCT.out]
     exact⟨HF8.out,s7,vs7,.iface 121 (.pointer pf),HS8.out,b1,b2,b3,b4',b5,rfl,HE8.out _ _ _ HE7.out⟩
    ·go_wp2_with fail
     have hb8:Below w7.heap.size w7 (w7.alloc (.cells #[.iface 121 (.pointer pf),.iface 121 (.pointer p)] 108)):=(Below.refl _ _).alloc (Nat.le_refl _) _
     refine (ek w7.heap.size 2 (.iface 121 (.pointer pf)) (.iface 121 (.pointer p)) (w7.alloc (.cells #[.iface 121 (.pointer pf),.iface 121 (.pointer p)] 108)) (Or.inr ⟨_,rfl⟩) (Or.inr ⟨_,rfl⟩) ((Blk.new w7 108 #[.iface 121 (.pointer pf),.iface 121 (.pointer p)]).cell 0) ((Blk.new w7 108 #[.iface 121 (.pointer pf),.iface 121 (.pointer p)]).cell 1)).mono ?_
     rintro e w8 ⟨rfl,rfl⟩
     have HS8:=Lib.hid (HS7.out.below hb8)
     have HF8:Hid (FrY R OB B w (w7.alloc (.cells #[.iface 121 (.pointer pf),.iface 121 (.pointer p)] 108))):=Lib.hid (HF7.out.trans (.of hb8))
     have HE8:=Lib.hid (fun i c v (h:aF l w7 R OB i c v)=>aF.next (B:=B) h (.of hb8))
     clear HS7 HF7 hb8
     unfold bO
     go_wp2_with fail
     go_ret
     obtain ⟨b1,b2,b3,b4',b5⟩:=HB7.out
     rw [HRS.out,if_neg (by have:=HFF.out; omega),HCT.out]
     exact⟨HF8.out,s7,vs7,.iface 121 (.pointer pf),HS8.out,b1,b2,b3,b4',b5,rfl,HE8.out _ _ _ HE7.out⟩
end Go.Proofs.YtkkeocnnecegbaaGreatDoor
