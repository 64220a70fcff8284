/- Joint text: TI. By an AI agent. -/
import Derived.Test.YtkkeocnnecegbaaGreatDoorQ24
import Derived.Test.YtkkeocnnecegbaaGreatDoorQ25
set_option linter.all false
set_option maxRecDepth 100000
set_option maxHeartbeats 64000000
namespace Go.Proofs.YtkkeocnnecegbaaGreatDoor
open Go.RowKit
theorem fq.more {R OB B n c:Nat} {A:Option Addr} {l:List PV} {mn:Int} {va vf:Value} {s:TS} {N N':Nat} {w w0:World} {res:Except fK TS} {e:Ending} {w':World} (f:FrY R OB B w0 w) (hN:N≤N') (h:fq R OB B n c A l mn va vf s N w res e w'):fq R OB B n c A l mn va vf s N' w0 res e w':=by
 obtain ⟨f1,s',vs',v,h1,h2,h3,h4,h5,h6,h7,h8⟩:=h
 exact⟨f.trans f1,s',vs',v,h1,h2,h3,h4,by omega,by omega,h7,h8⟩
theorem F9 (w0:World) (n cc:Nat) (A:Option Addr) (l:List PV) (hT:bg w0 A l) (hn:n=l.length) (tc:List UInt8) (nc:Int) (pc:Nat) (r:List Item) (hc:NC w0 n cc A l (.mk 16 tc nc pc [])) (hk:∀ y∈r,NC w0 n cc A l y) (R OB B:Nat) (mn:Int) (va vf vs:Value) (s:TS) (i ck:Nat) (Ak:Option Addr) (g:PV) (w:World) (hg:l[i]? = some g) (hgv:g.2=.slice Ak (r.length+1) ck) (hcap:r.length+1≤ck) (hat:AtL (gns l) (i+1) (.mk 16 tc nc pc [] :: r)) (hin:gU w0 Ak ((offs (i+1) (.mk 16 tc nc pc [] :: r)).map (fun k:Nat=>(k:Int)))) (hW:TW w0 w R OB B) (h:StT w R OB B n cc A mn s va vf vs) (hv:s.vars+(1+sizeL r)≤900000) (hsl:s.seen.length+(1+sizeL r)≤900000) (hal:s.ak.length≤900000) (hfl:s.fns.length≤900000) :
  Calls Tryz.prog 199 #[.pointer (some ⟨R,0,none⟩),.int .i64 i,gq g] w (fq R OB B n cc A l mn va vf s (1+sizeL r) w (if s.find g.1.text<0 then .error (some i,150) else callT i (i+1) (.mk 16 tc nc pc [] :: r) (s.put i (s.find g.1.text)))):=by
 by_cases hc1:ck=1
 ·exact Hg w0 n cc A l hT hn tc nc pc r hc hk R OB B mn va vf vs s i ck hc1 Ak g w hg hgv hcap hat hin hW h hv hsl hal hfl
 ·exact GX w0 n cc A l hT hn tc nc pc r hc hk R OB B mn va vf vs s i ck hc1 Ak g w hg hgv hcap hat hin hW h hv hsl hal hfl
theorem CE (w0:World) (n cc:Nat) (A:Option Addr) (l:List PV) (hT:bg w0 A l) (hn:n=l.length)  (t:List UInt8) (nn:Int) (pp:Nat) (ks:List Item) (hk:∀ y∈ks,NC w0 n cc A l y)  : NC w0 n cc A l (.mk 4 t nn pp ks):=by
 intro R OB B mn va vf vs s i w hat hW h hv hsl hal hfl
 obtain ⟨⟨a,hgi⟩,hat2⟩:=hat
 obtain ⟨v,hl⟩:=gP hgi
 have hi:i<n:=by rw [hn]; exact (List.getElem?_eq_some_iff.1 hl).1
 obtain ⟨b,o,rfl,x0,x1,x2,x3,x4,A3,c3,hxv0,hc30,hin⟩:=hT.at hl
 have hxv:v=.slice A3 ((offs (i+1) ks).map (fun k:Nat=>(k:Int))).length c3:=hxv0
 have hc3:((offs (i+1) ks).map (fun k:Nat=>(k:Int))).length≤c3:=hc30
 clear hxv0 hc30
 rw [List.length_map,aL] at hxv hc3
 subst hxv
 have y0:w.cell? ⟨b,o+i*5,none⟩=some (.int .u8 (4:Nat)):=(hW.below.cell (p:=⟨b,_,none⟩) (aa x0)).trans x0
 have y1:w.cell? ⟨b,o+i*5+1,none⟩=some (.string ⟨t.toArray⟩):=(hW.below.cell (p:=⟨b,_,none⟩) (aa x1)).trans x1
 have y2:w.cell? ⟨b,o+i*5+2,none⟩=some (.int .i64 nn):=(hW.below.cell (p:=⟨b,_,none⟩) (aa x2)).trans x2
 have y3:w.cell? ⟨b,o+i*5+3,none⟩=some (.int .i64 a):=(hW.below.cell (p:=⟨b,_,none⟩) (aa x3)).trans x3
 have y4:w.cell? ⟨b,o+i*5+4,none⟩=some (.slice A3 ks.length c3):=(hW.below.cell (p:=⟨b,_,none⟩) (aa x4)).trans x4
 have lb:=aa y0
 have r0:w.cell? ⟨R,0,none⟩=some (.slice (some ⟨b,o,none⟩) n cc):=h.rd.cell 0
 have lR:=h.rd.lt; have lO:=h.obl.lt
 have hii:(i:Int)<(n:Int):=by omega
 have hi0:(0:Int)≤(i:Int):=by omega
 obtain ⟨T,hTT⟩:∃ T:ByteArray,T=⟨t.toArray⟩:=⟨_,rfl⟩
 have hTd:T.data.toList=t:=by rw [hTT]
 have HTT:=Lib.hid hTT
 rw [← hTT] at y1
 have hb0:Below w.heap.size w (w.alloc (.cells #[.int .u8 (4:Nat),.string T,.int .i64 nn,.int .i64 a,.slice A3 ks.length c3] 43)):=(Below.refl _ _).alloc (Nat.le_refl _) _
 have HBX:Hid (Blk (w.alloc (.cells #[.int .u8 (4:Nat),.string T,.int .i64 nn,.int .i64 a,.slice A3 ks.length c3] 43)) w.heap.size 43 #[.int .u8 (4:Nat),.string T,.int .i64 nn,.int .i64 a,.slice A3 ks.length c3]):=Lib.hid (Blk.new _ _ _)
 have HFA:Hid (FrY R OB B w (w.alloc (.cells #[.int .u8 (4:Nat),.string T,.int .i64 nn,.int .i64 a,.slice A3 ks.length c3] 43))):=Lib.hid (.of hb0)
 have HSA:=Lib.hid (h.below hb0)
 have HWA:=Lib.hid (hW.next HFA.out)
 have hsz:s.vars+(1+sizeL ks)≤900000:=hv
 have hsz2:s.seen.length+(1+sizeL ks)≤900000:=hsl
 have HRO:Hid (w.heap.size≠R∧w.heap.size≠OB):=Lib.hid ⟨by omega,by omega⟩
 have HALL:=Lib.hid (fun (W:World) (s1:TS) (vs1:Value) (f:FrY R OB B (w.alloc (.cells #[.int .u8 (4:Nat),.string T,.int .i64 nn,.int .i64 a,.slice A3 ks.length c3] 43)) W) (hS:StT W R OB B n cc (some ⟨b,o,none⟩) mn s1 va vf vs1) h1 h2 h3 h4=>fB w0 n cc (some ⟨b,o,none⟩) l ks hk R OB B mn va vf vs1 s1 (i+1) c3 A3 W hat2 hin (HWA.out.next f) hS h1 h2 h3 h4)
 have HT:=Lib.hid hT; have HN:=Lib.hid hn; have HG:=Lib.hid hl; have HKN:=Lib.hid hk; have HAT:=Lib.hid hat2; have HTD:=Lib.hid hTd; have HIN:=Lib.hid hin; have HC3:=Lib.hid hc3
 have HNT:Hid (nodeT i (.mk 4 t nn pp ks) s=declT i t s):=Lib.hid (by rw [nodeT]; rfl)
 rw [HNT.out]
 obtain ⟨res,hres⟩:∃ res,res=declT i t s:=⟨_,rfl⟩
 rw [← hres]
 have HRS:=Lib.hid hres
 clear hT hn hl hgi hk hat2 hTT hTd hin hc3 x0 x1 x2 x3 x4 hb0 h hW hres hv hsl
 go_enter Tryz.func164,Tryz.ntmps164
 go_upto_region 2 with fail
 clear y0 y1 y2 y3 y4 lb r0 lR
 generalize w.alloc (.cells #[.int .u8 (4:Nat),.string T,.int .i64 nn,.int .i64 a,.slice A3 ks.length c3] 43)=wa at *
 have HBF:=Lib.hid (fun W (f:FrY R OB B wa W)=>f.hi _ _ _ HBX.out HRO.out.1 HRO.out.2 ⟨by decide,by decide,by decide⟩)
 have q0:wa.cell? ⟨w.heap.size,0,none⟩=some (.int .u8 (4:Nat)):=HBX.out.cell 0
 have q1:wa.cell? ⟨w.heap.size,1,none⟩=some (.string T):=HBX.out.cell 1
 have q2:wa.cell? ⟨w.heap.size,2,none⟩=some (.int .i64 nn):=HBX.out.cell 2
 have q3:wa.cell? ⟨w.heap.size,3,none⟩=some (.int .i64 a):=HBX.out.cell 3
 have q4:wa.cell? ⟨w.heap.size,4,none⟩=some (.slice A3 ks.length c3):=HBX.out.cell 4
 have lq:=HBX.out.lt
 go_wp2_with fail
 refine (pq HT.out HN.out HWA.out HSA.out i _ HG.out (by omega) (by omega)).mono ?_
 rintro e w9 ⟨f9,s9,vs9,v9,hs9,ha9,hfn9,hmo9,hv9,hl9,rfl,hr9⟩
 have HP9:Hid (fq R OB B n cc (some ⟨b,o,none⟩) l mn va vf s 1 wa (declT i t s) (.returned v9) w9):=Lib.hid ⟨f9,s9,vs9,v9,hs9,ha9,hfn9,hmo9,hv9,hl9,rfl,hr9⟩
 clear f9 hs9 ha9 hfn9 hmo9 hv9 hl9 hr9
 go_wp2_with fail
 go_ret
 rw [HRS.out]
 exact HP9.out.more HFA.out (by simp only [sizeI]; omega)
theorem BP (w0:World) (n cc:Nat) (A:Option Addr) (l:List PV) (hT:bg w0 A l) (hn:n=l.length)  (t:List UInt8) (nn:Int) (pp:Nat) (ks:List Item) (hk:∀ y∈ks,NC w0 n cc A l y)  : NC w0 n cc A l (.mk 5 t nn pp ks):=by
 intro R OB B mn va vf vs s i w hat hW h hv hsl hal hfl
 obtain ⟨⟨a,hgi⟩,hat2⟩:=hat
 obtain ⟨v,hl⟩:=gP hgi
 have hi:i<n:=by rw [hn]; exact (List.getElem?_eq_some_iff.1 hl).1
 obtain ⟨b,o,rfl,x0,x1,x2,x3,x4,A3,c3,hxv0,hc30,hin⟩:=hT.at hl
 have hxv:v=.slice A3 ((offs (i+1) ks).map (fun k:Nat=>(k:Int))).length c3:=hxv0
 have hc3:((offs (i+1) ks).map (fun k:Nat=>(k:Int))).length≤c3:=hc30
 clear hxv0 hc30
 rw [List.length_map,aL] at hxv hc3
 subst hxv
 have y0:w.cell? ⟨b,o+i*5,none⟩=some (.int .u8 (5:Nat)):=(hW.below.cell (p:=⟨b,_,none⟩) (aa x0)).trans x0
 have y1:w.cell? ⟨b,o+i*5+1,none⟩=some (.string ⟨t.toArray⟩):=(hW.below.cell (p:=⟨b,_,none⟩) (aa x1)).trans x1
 have y2:w.cell? ⟨b,o+i*5+2,none⟩=some (.int .i64 nn):=(hW.below.cell (p:=⟨b,_,none⟩) (aa x2)).trans x2
 have y3:w.cell? ⟨b,o+i*5+3,none⟩=some (.int .i64 a):=(hW.below.cell (p:=⟨b,_,none⟩) (aa x3)).trans x3
 have y4:w.cell? ⟨b,o+i*5+4,none⟩=some (.slice A3 ks.length c3):=(hW.below.cell (p:=⟨b,_,none⟩) (aa x4)).trans x4
 have lb:=aa y0
 have r0:w.cell? ⟨R,0,none⟩=some (.slice (some ⟨b,o,none⟩) n cc):=h.rd.cell 0
 have lR:=h.rd.lt; have lO:=h.obl.lt
 have hii:(i:Int)<(n:Int):=by omega
 have hi0:(0:Int)≤(i:Int):=by omega
 obtain ⟨T,hTT⟩:∃ T:ByteArray,T=⟨t.toArray⟩:=⟨_,rfl⟩
 have hTd:T.data.toList=t:=by rw [hTT]
 have HTT:=Lib.hid hTT
 rw [← hTT] at y1
 have hb0:Below w.heap.size w (w.alloc (.cells #[.int .u8 (5:Nat),.string T,.int .i64 nn,.int .i64 a,.slice A3 ks.length c3] 43)):=(Below.refl _ _).alloc (Nat.le_refl _) _
 have HBX:Hid (Blk (w.alloc (.cells #[.int .u8 (5:Nat),.string T,.int .i64 nn,.int .i64 a,.slice A3 ks.length c3] 43)) w.heap.size 43 #[.int .u8 (5:Nat),.string T,.int .i64 nn,.int .i64 a,.slice A3 ks.length c3]):=Lib.hid (Blk.new _ _ _)
 have HFA:Hid (FrY R OB B w (w.alloc (.cells #[.int .u8 (5:Nat),.string T,.int .i64 nn,.int .i64 a,.slice A3 ks.length c3] 43))):=Lib.hid (.of hb0)
 have HSA:=Lib.hid (h.below hb0)
 have HWA:=Lib.hid (hW.next HFA.out)
 have hsz:s.vars+(1+sizeL ks)≤900000:=hv
 have hsz2:s.seen.length+(1+sizeL ks)≤900000:=hsl
 have HRO:Hid (w.heap.size≠R∧w.heap.size≠OB):=Lib.hid ⟨by omega,by omega⟩
 have HALL:=Lib.hid (fun (W:World) (s1:TS) (vs1:Value) (f:FrY R OB B (w.alloc (.cells #[.int .u8 (5:Nat),.string T,.int .i64 nn,.int .i64 a,.slice A3 ks.length c3] 43)) W) (hS:StT W R OB B n cc (some ⟨b,o,none⟩) mn s1 va vf vs1) h1 h2 h3 h4=>fB w0 n cc (some ⟨b,o,none⟩) l ks hk R OB B mn va vf vs1 s1 (i+1) c3 A3 W hat2 hin (HWA.out.next f) hS h1 h2 h3 h4)
 have HT:=Lib.hid hT; have HN:=Lib.hid hn; have HG:=Lib.hid hl; have HKN:=Lib.hid hk; have HAT:=Lib.hid hat2; have HTD:=Lib.hid hTd; have HIN:=Lib.hid hin; have HC3:=Lib.hid hc3
 have HNT:Hid (nodeT i (.mk 5 t nn pp ks) s=andThenT (allT (i+1) ks s) (fun s'=>.ok (jD s s'))):=Lib.hid (by rw [nodeT]; rfl)
 rw [HNT.out]
 obtain ⟨res,hres⟩:∃ res,res=andThenT (allT (i+1) ks s) (fun s'=>.ok (jD s s')):=⟨_,rfl⟩
 rw [← hres]
 have HRS:=Lib.hid hres
 clear hT hn hl hgi hk hat2 hTT hTd hin hc3 x0 x1 x2 x3 x4 hb0 h hW hres hv hsl
 go_enter Tryz.func164,Tryz.ntmps164
 go_upto_region 2 with fail
 clear y0 y1 y2 y3 y4 lb r0 lR
 generalize w.alloc (.cells #[.int .u8 (5:Nat),.string T,.int .i64 nn,.int .i64 a,.slice A3 ks.length c3] 43)=wa at *
 have HBF:=Lib.hid (fun W (f:FrY R OB B wa W)=>f.hi _ _ _ HBX.out HRO.out.1 HRO.out.2 ⟨by decide,by decide,by decide⟩)
 have q0:wa.cell? ⟨w.heap.size,0,none⟩=some (.int .u8 (5:Nat)):=HBX.out.cell 0
 have q1:wa.cell? ⟨w.heap.size,1,none⟩=some (.string T):=HBX.out.cell 1
 have q2:wa.cell? ⟨w.heap.size,2,none⟩=some (.int .i64 nn):=HBX.out.cell 2
 have q3:wa.cell? ⟨w.heap.size,3,none⟩=some (.int .i64 a):=HBX.out.cell 3
 have q4:wa.cell? ⟨w.heap.size,4,none⟩=some (.slice A3 ks.length c3):=HBX.out.cell 4
 have lq:=HBX.out.lt
 go_wp2_with fail
 refine (CY w0 n cc (some ⟨b,o,none⟩) l ks HKN.out R OB B mn va vf vs s (i+1) c3 A3 wa HAT.out HIN.out HWA.out HSA.out (by omega) (by omega) hal hfl).mono ?_
 rintro e w9 ⟨f9,s9,vs9,v9,hs9,ha9,hfn9,hmo9,hv9,hl9,rfl,hr9⟩
 have HP9:Hid (fq R OB B n cc (some ⟨b,o,none⟩) l mn va vf s (sizeL ks) wa (andThenT (allT (i+1) ks s) (fun s'=>.ok (jD s s'))) (.returned v9) w9):=Lib.hid ⟨f9,s9,vs9,v9,hs9,ha9,hfn9,hmo9,hv9,hl9,rfl,hr9⟩
 clear f9 hs9 ha9 hfn9 hmo9 hv9 hl9 hr9
 go_wp2_with fail
 go_ret
 rw [HRS.out]
 exact HP9.out.more HFA.out (by simp only [sizeI]; omega)
theorem G5 (w0:World) (n cc:Nat) (A:Option Addr) (l:List PV) (hT:bg w0 A l) (hn:n=l.length)  (t:List UInt8) (nn:Int) (pp:Nat) (ks:List Item) (hk:∀ y∈ks,NC w0 n cc A l y)  : NC w0 n cc A l (.mk 6 t nn pp ks):=by
 intro R OB B mn va vf vs s i w hat hW h hv hsl hal hfl
 obtain ⟨⟨a,hgi⟩,hat2⟩:=hat
 obtain ⟨v,hl⟩:=gP hgi
 have hi:i<n:=by rw [hn]; exact (List.getElem?_eq_some_iff.1 hl).1
 obtain ⟨b,o,rfl,x0,x1,x2,x3,x4,A3,c3,hxv0,hc30,hin⟩:=hT.at hl
 have hxv:v=.slice A3 ((offs (i+1) ks).map (fun k:Nat=>(k:Int))).length c3:=hxv0
 have hc3:((offs (i+1) ks).map (fun k:Nat=>(k:Int))).length≤c3:=hc30
 clear hxv0 hc30
 rw [List.length_map,aL] at hxv hc3
 subst hxv
 have y0:w.cell? ⟨b,o+i*5,none⟩=some (.int .u8 (6:Nat)):=(hW.below.cell (p:=⟨b,_,none⟩) (aa x0)).trans x0
 have y1:w.cell? ⟨b,o+i*5+1,none⟩=some (.string ⟨t.toArray⟩):=(hW.below.cell (p:=⟨b,_,none⟩) (aa x1)).trans x1
 have y2:w.cell? ⟨b,o+i*5+2,none⟩=some (.int .i64 nn):=(hW.below.cell (p:=⟨b,_,none⟩) (aa x2)).trans x2
 have y3:w.cell? ⟨b,o+i*5+3,none⟩=some (.int .i64 a):=(hW.below.cell (p:=⟨b,_,none⟩) (aa x3)).trans x3
 have y4:w.cell? ⟨b,o+i*5+4,none⟩=some (.slice A3 ks.length c3):=(hW.below.cell (p:=⟨b,_,none⟩) (aa x4)).trans x4
 have lb:=aa y0
 have r0:w.cell? ⟨R,0,none⟩=some (.slice (some ⟨b,o,none⟩) n cc):=h.rd.cell 0
 have lR:=h.rd.lt; have lO:=h.obl.lt
 have hii:(i:Int)<(n:Int):=by omega
 have hi0:(0:Int)≤(i:Int):=by omega
 obtain ⟨T,hTT⟩:∃ T:ByteArray,T=⟨t.toArray⟩:=⟨_,rfl⟩
 have hTd:T.data.toList=t:=by rw [hTT]
 have HTT:=Lib.hid hTT
 rw [← hTT] at y1
 have hb0:Below w.heap.size w (w.alloc (.cells #[.int .u8 (6:Nat),.string T,.int .i64 nn,.int .i64 a,.slice A3 ks.length c3] 43)):=(Below.refl _ _).alloc (Nat.le_refl _) _
 have HBX:Hid (Blk (w.alloc (.cells #[.int .u8 (6:Nat),.string T,.int .i64 nn,.int .i64 a,.slice A3 ks.length c3] 43)) w.heap.size 43 #[.int .u8 (6:Nat),.string T,.int .i64 nn,.int .i64 a,.slice A3 ks.length c3]):=Lib.hid (Blk.new _ _ _)
 have HFA:Hid (FrY R OB B w (w.alloc (.cells #[.int .u8 (6:Nat),.string T,.int .i64 nn,.int .i64 a,.slice A3 ks.length c3] 43))):=Lib.hid (.of hb0)
 have HSA:=Lib.hid (h.below hb0)
 have HWA:=Lib.hid (hW.next HFA.out)
 have hsz:s.vars+(1+sizeL ks)≤900000:=hv
 have hsz2:s.seen.length+(1+sizeL ks)≤900000:=hsl
 have HRO:Hid (w.heap.size≠R∧w.heap.size≠OB):=Lib.hid ⟨by omega,by omega⟩
 have HALL:=Lib.hid (fun (W:World) (s1:TS) (vs1:Value) (f:FrY R OB B (w.alloc (.cells #[.int .u8 (6:Nat),.string T,.int .i64 nn,.int .i64 a,.slice A3 ks.length c3] 43)) W) (hS:StT W R OB B n cc (some ⟨b,o,none⟩) mn s1 va vf vs1) h1 h2 h3 h4=>fB w0 n cc (some ⟨b,o,none⟩) l ks hk R OB B mn va vf vs1 s1 (i+1) c3 A3 W hat2 hin (HWA.out.next f) hS h1 h2 h3 h4)
 have HT:=Lib.hid hT; have HN:=Lib.hid hn; have HG:=Lib.hid hl; have HKN:=Lib.hid hk; have HAT:=Lib.hid hat2; have HTD:=Lib.hid hTd; have HIN:=Lib.hid hin; have HC3:=Lib.hid hc3
 have HNT:Hid (nodeT i (.mk 6 t nn pp ks) s=andThenT (allT (i+1) ks s) (declT i t)):=Lib.hid (by rw [nodeT]; rfl)
 rw [HNT.out]
 obtain ⟨res,hres⟩:∃ res,res=andThenT (allT (i+1) ks s) (declT i t):=⟨_,rfl⟩
 rw [← hres]
 have HRS:=Lib.hid hres
 clear hT hn hl hgi hk hat2 hTT hTd hin hc3 x0 x1 x2 x3 x4 hb0 h hW hres hv hsl
 go_enter Tryz.func164,Tryz.ntmps164
 go_upto_region 2 with fail
 clear y0 y1 y2 y3 y4 lb r0 lR
 generalize w.alloc (.cells #[.int .u8 (6:Nat),.string T,.int .i64 nn,.int .i64 a,.slice A3 ks.length c3] 43)=wa at *
 have HBF:=Lib.hid (fun W (f:FrY R OB B wa W)=>f.hi _ _ _ HBX.out HRO.out.1 HRO.out.2 ⟨by decide,by decide,by decide⟩)
 have q0:wa.cell? ⟨w.heap.size,0,none⟩=some (.int .u8 (6:Nat)):=HBX.out.cell 0
 have q1:wa.cell? ⟨w.heap.size,1,none⟩=some (.string T):=HBX.out.cell 1
 have q2:wa.cell? ⟨w.heap.size,2,none⟩=some (.int .i64 nn):=HBX.out.cell 2
 have q3:wa.cell? ⟨w.heap.size,3,none⟩=some (.int .i64 a):=HBX.out.cell 3
 have q4:wa.cell? ⟨w.heap.size,4,none⟩=some (.slice A3 ks.length c3):=HBX.out.cell 4
 have lq:=HBX.out.lt
 go_wp2_with fail
 refine (HALL.out wa s vs (FrY.refl _ _ _ _) HSA.out (by omega) (by omega) hal hfl).mono ?_
 rintro e w1 ⟨f1,s1,vs1,v1,hs1,ha1,hfn1,⟨mo1,hmo1⟩,hv1,hl1,rfl,hr1⟩
 have HF1:=Lib.hid f1; have HS1:=Lib.hid hs1
 have HB1:Hid (s1.ak=s.ak∧s1.fns=s.fns∧s1.seen=s.seen ++ mo1∧s1.vars≤s.vars+sizeL ks∧s1.seen.length≤s.seen.length+sizeL ks):=Lib.hid ⟨ha1,hfn1,hmo1,hv1,hl1⟩
 clear f1 hs1 ha1 hfn1 hmo1 hv1 hl1
 cases hall:allT (i+1) ks s with
 | error q =>
  rw [hall] at hr1
  obtain ⟨p1,p2⟩:=q
  obtain ⟨p,rfl⟩:=aF.isErr hr1
  have HE:Hid (aF l w1 R OB p1 p2 (.iface 121 (.pointer p))):=Lib.hid hr1
  have HAL:=Lib.hid hall
  clear hr1 hall
  go_wp2_with fail
  go_ret
  obtain ⟨b1,b2,b3,b4,b5⟩:=HB1.out
  rw [HRS.out,HAL.out]
  exact⟨HFA.out.trans HF1.out,s1,vs1,.iface 121 (.pointer p),HS1.out,b1,b2,⟨_,b3⟩,by simp only [sizeI]; omega,by simp only [sizeI]; omega,rfl,HE.out⟩
 | ok s2 =>
  rw [hall] at hr1
  obtain ⟨rfl,rfl⟩:=hr1
  have HAL:=Lib.hid hall
  clear hall
  go_wp2_with fail
  refine (pq HT.out HN.out (HWA.out.next HF1.out) HS1.out i _ HG.out (by have:=HB1.out.2.2.2.1; omega) (by have:=HB1.out.2.2.2.2; omega)).mono ?_
  rintro e w9 ⟨f9,s9,vs9,v9,hs9,ha9,hfn9,hmo9,hv9,hl9,rfl,hr9⟩
  have HP9:Hid (fq R OB B n cc (some ⟨b,o,none⟩) l mn va vf s1 1 w1 (declT i t s1) (.returned v9) w9):=Lib.hid ⟨f9,s9,vs9,v9,hs9,ha9,hfn9,hmo9,hv9,hl9,rfl,hr9⟩
  clear f9 hs9 ha9 hfn9 hmo9 hv9 hl9 hr9
  go_wp2_with fail
  go_ret
  rw [HRS.out,HAL.out]
  obtain ⟨b1,b2,b3,b4,b5⟩:=HB1.out
  obtain ⟨f9,s9,vs9,v9',hs9,ha9,hfn9,⟨mo9,hmo9⟩,hv9,hl9,he9,hr9⟩:=HP9.out
  exact⟨HFA.out.trans (HF1.out.trans f9),s9,vs9,v9',hs9,ha9.trans b1,hfn9.trans b2,⟨mo1 ++ mo9,by rw [hmo9,b3,List.append_assoc]⟩,by simp only [sizeI]; omega,by simp only [sizeI]; omega,he9,hr9⟩
theorem Iq (w0:World) (n cc:Nat) (A:Option Addr) (l:List PV) (hT:bg w0 A l) (hn:n=l.length)  (t:List UInt8) (nn:Int) (pp:Nat) (ks:List Item) (hk:∀ y∈ks,NC w0 n cc A l y)  : NC w0 n cc A l (.mk 7 t nn pp ks):=by
 intro R OB B mn va vf vs s i w hat hW h hv hsl hal hfl
 obtain ⟨⟨a,hgi⟩,hat2⟩:=hat
 obtain ⟨v,hl⟩:=gP hgi
 have hi:i<n:=by rw [hn]; exact (List.getElem?_eq_some_iff.1 hl).1
 obtain ⟨b,o,rfl,x0,x1,x2,x3,x4,A3,c3,hxv0,hc30,hin⟩:=hT.at hl
 have hxv:v=.slice A3 ((offs (i+1) ks).map (fun k:Nat=>(k:Int))).length c3:=hxv0
 have hc3:((offs (i+1) ks).map (fun k:Nat=>(k:Int))).length≤c3:=hc30
 clear hxv0 hc30
 rw [List.length_map,aL] at hxv hc3
 subst hxv
 have y0:w.cell? ⟨b,o+i*5,none⟩=some (.int .u8 (7:Nat)):=(hW.below.cell (p:=⟨b,_,none⟩) (aa x0)).trans x0
 have y1:w.cell? ⟨b,o+i*5+1,none⟩=some (.string ⟨t.toArray⟩):=(hW.below.cell (p:=⟨b,_,none⟩) (aa x1)).trans x1
 have y2:w.cell? ⟨b,o+i*5+2,none⟩=some (.int .i64 nn):=(hW.below.cell (p:=⟨b,_,none⟩) (aa x2)).trans x2
 have y3:w.cell? ⟨b,o+i*5+3,none⟩=some (.int .i64 a):=(hW.below.cell (p:=⟨b,_,none⟩) (aa x3)).trans x3
 have y4:w.cell? ⟨b,o+i*5+4,none⟩=some (.slice A3 ks.length c3):=(hW.below.cell (p:=⟨b,_,none⟩) (aa x4)).trans x4
 have lb:=aa y0
 have r0:w.cell? ⟨R,0,none⟩=some (.slice (some ⟨b,o,none⟩) n cc):=h.rd.cell 0
 have lR:=h.rd.lt; have lO:=h.obl.lt
 have hii:(i:Int)<(n:Int):=by omega
 have hi0:(0:Int)≤(i:Int):=by omega
 obtain ⟨T,hTT⟩:∃ T:ByteArray,T=⟨t.toArray⟩:=⟨_,rfl⟩
 have hTd:T.data.toList=t:=by rw [hTT]
 have HTT:=Lib.hid hTT
 rw [← hTT] at y1
 have hb0:Below w.heap.size w (w.alloc (.cells #[.int .u8 (7:Nat),.string T,.int .i64 nn,.int .i64 a,.slice A3 ks.length c3] 43)):=(Below.refl _ _).alloc (Nat.le_refl _) _
 have HBX:Hid (Blk (w.alloc (.cells #[.int .u8 (7:Nat),.string T,.int .i64 nn,.int .i64 a,.slice A3 ks.length c3] 43)) w.heap.size 43 #[.int .u8 (7:Nat),.string T,.int .i64 nn,.int .i64 a,.slice A3 ks.length c3]):=Lib.hid (Blk.new _ _ _)
 have HFA:Hid (FrY R OB B w (w.alloc (.cells #[.int .u8 (7:Nat),.string T,.int .i64 nn,.int .i64 a,.slice A3 ks.length c3] 43))):=Lib.hid (.of hb0)
 have HSA:=Lib.hid (h.below hb0)
 have HWA:=Lib.hid (hW.next HFA.out)
 have hsz:s.vars+(1+sizeL ks)≤900000:=hv
 have hsz2:s.seen.length+(1+sizeL ks)≤900000:=hsl
 have HRO:Hid (w.heap.size≠R∧w.heap.size≠OB):=Lib.hid ⟨by omega,by omega⟩
 have HALL:=Lib.hid (fun (W:World) (s1:TS) (vs1:Value) (f:FrY R OB B (w.alloc (.cells #[.int .u8 (7:Nat),.string T,.int .i64 nn,.int .i64 a,.slice A3 ks.length c3] 43)) W) (hS:StT W R OB B n cc (some ⟨b,o,none⟩) mn s1 va vf vs1) h1 h2 h3 h4=>fB w0 n cc (some ⟨b,o,none⟩) l ks hk R OB B mn va vf vs1 s1 (i+1) c3 A3 W hat2 hin (HWA.out.next f) hS h1 h2 h3 h4)
 have HT:=Lib.hid hT; have HN:=Lib.hid hn; have HG:=Lib.hid hl; have HKN:=Lib.hid hk; have HAT:=Lib.hid hat2; have HTD:=Lib.hid hTd; have HIN:=Lib.hid hin; have HC3:=Lib.hid hc3
 have HNT:Hid (nodeT i (.mk 7 t nn pp ks) s=andThenT (eD i (s.find t) s) (allT (i+1) ks)):=Lib.hid (by rw [nodeT]; rfl)
 rw [HNT.out]
 obtain ⟨res,hres⟩:∃ res,res=andThenT (eD i (s.find t) s) (allT (i+1) ks):=⟨_,rfl⟩
 rw [← hres]
 have HRS:=Lib.hid hres
 clear hT hn hl hgi hk hat2 hTT hTd hin hc3 x0 x1 x2 x3 x4 hb0 h hW hres hv hsl
 go_enter Tryz.func164,Tryz.ntmps164
 go_upto_region 2 with fail
 clear y0 y1 y2 y3 y4 lb r0 lR
 generalize w.alloc (.cells #[.int .u8 (7:Nat),.string T,.int .i64 nn,.int .i64 a,.slice A3 ks.length c3] 43)=wa at *
 have HBF:=Lib.hid (fun W (f:FrY R OB B wa W)=>f.hi _ _ _ HBX.out HRO.out.1 HRO.out.2 ⟨by decide,by decide,by decide⟩)
 have q0:wa.cell? ⟨w.heap.size,0,none⟩=some (.int .u8 (7:Nat)):=HBX.out.cell 0
 have q1:wa.cell? ⟨w.heap.size,1,none⟩=some (.string T):=HBX.out.cell 1
 have q2:wa.cell? ⟨w.heap.size,2,none⟩=some (.int .i64 nn):=HBX.out.cell 2
 have q3:wa.cell? ⟨w.heap.size,3,none⟩=some (.int .i64 a):=HBX.out.cell 3
 have q4:wa.cell? ⟨w.heap.size,4,none⟩=some (.slice A3 ks.length c3):=HBX.out.cell 4
 have lq:=HBX.out.lt
 go_wp2_with fail
 refine (jN HSA.out T (by omega)).mono ?_
 rw [HTD.out]
 rintro e w1 ⟨rfl,hb1⟩
 have HF1:Hid (FrY R OB B wa w1):=Lib.hid (.of hb1)
 have HS1:=Lib.hid (HSA.out.below hb1)
 clear hb1 q0 q1 q2 q3 q4 lq
 go_wp2_with fail
 refine (iU HT.out HN.out (HWA.out.next HF1.out) HS1.out i hi (s.find t)).mono ?_
 rintro e w2 ⟨hf2,hs2,u,rfl,hu⟩
 have HF2:Hid (FrY R OB B wa w2):=Lib.hid (HF1.out.trans hf2)
 have HS2:=Lib.hid hs2
 clear hf2 hs2 HS1 HF1
 have q4:w2.cell? ⟨w.heap.size,4,none⟩=some (.slice A3 ks.length c3):=(HBF.out w2 HF2.out).cell 4
 have lq:=(HBF.out w2 HF2.out).lt
 by_cases hneg:s.find t<0
 ·have HNG:=Lib.hid hneg
  rw [if_pos hneg] at hu
  obtain ⟨p,rfl⟩:=hu.isErr
  have HE:=Lib.hid hu
  clear hu hneg
  go_wp2_with fail
  go_ret
  have hm:eD i (s.find t) s=.error (some i,150):=if_pos HNG.out
  rw [HRS.out,hm]
  exact⟨HFA.out.trans HF2.out,_,vs,.iface 121 (.pointer p),HS2.out,rfl,rfl,⟨[],by simp [TS.put]⟩,Nat.le_add_right _ _,Nat.le_add_right _ _,rfl,HE.out⟩
 ·have HNG:=Lib.hid hneg
  rw [if_neg hneg] at hu
  subst hu
  clear hneg
  go_wp2_with fail
  refine (HALL.out w2 _ vs HF2.out HS2.out (by show s.vars+_≤_; omega) (by show s.seen.length+_≤_; omega) hal hfl).mono ?_
  rintro e w9 ⟨f9,s9,vs9,v9,hs9,ha9,hfn9,hmo9,hv9,hl9,rfl,hr9⟩
  have HP9:Hid (fq R OB B n cc (some ⟨b,o,none⟩) l mn va vf (s.put i (s.find t)) (sizeL ks) w2 (allT (i+1) ks (s.put i (s.find t))) (.returned v9) w9):=Lib.hid ⟨f9,s9,vs9,v9,hs9,ha9,hfn9,hmo9,hv9,hl9,rfl,hr9⟩
  clear f9 hs9 ha9 hfn9 hmo9 hv9 hl9 hr9
  go_wp2_with fail
  go_ret
  have hm:eD i (s.find t) s=.ok (s.put i (s.find t)):=if_neg (by have:=HNG.out; omega)
  rw [HRS.out,hm]
  exact HP9.out.more (HFA.out.trans HF2.out) (by simp only [sizeI]; omega)
theorem H7 (w0:World) (n cc:Nat) (A:Option Addr) (l:List PV) (hT:bg w0 A l) (hn:n=l.length)  (t:List UInt8) (nn:Int) (pp:Nat) (ks:List Item) (hk:∀ y∈ks,NC w0 n cc A l y)  : NC w0 n cc A l (.mk 14 t nn pp ks):=by
 intro R OB B mn va vf vs s i w hat hW h hv hsl hal hfl
 obtain ⟨⟨a,hgi⟩,hat2⟩:=hat
 obtain ⟨v,hl⟩:=gP hgi
 have hi:i<n:=by rw [hn]; exact (List.getElem?_eq_some_iff.1 hl).1
 obtain ⟨b,o,rfl,x0,x1,x2,x3,x4,A3,c3,hxv0,hc30,hin⟩:=hT.at hl
 have hxv:v=.slice A3 ((offs (i+1) ks).map (fun k:Nat=>(k:Int))).length c3:=hxv0
 have hc3:((offs (i+1) ks).map (fun k:Nat=>(k:Int))).length≤c3:=hc30
 clear hxv0 hc30
 rw [List.length_map,aL] at hxv hc3
 subst hxv
 have y0:w.cell? ⟨b,o+i*5,none⟩=some (.int .u8 (14:Nat)):=(hW.below.cell (p:=⟨b,_,none⟩) (aa x0)).trans x0
 have y1:w.cell? ⟨b,o+i*5+1,none⟩=some (.string ⟨t.toArray⟩):=(hW.below.cell (p:=⟨b,_,none⟩) (aa x1)).trans x1
 have y2:w.cell? ⟨b,o+i*5+2,none⟩=some (.int .i64 nn):=(hW.below.cell (p:=⟨b,_,none⟩) (aa x2)).trans x2
 have y3:w.cell? ⟨b,o+i*5+3,none⟩=some (.int .i64 a):=(hW.below.cell (p:=⟨b,_,none⟩) (aa x3)).trans x3
 have y4:w.cell? ⟨b,o+i*5+4,none⟩=some (.slice A3 ks.length c3):=(hW.below.cell (p:=⟨b,_,none⟩) (aa x4)).trans x4
 have lb:=aa y0
 have r0:w.cell? ⟨R,0,none⟩=some (.slice (some ⟨b,o,none⟩) n cc):=h.rd.cell 0
 have lR:=h.rd.lt; have lO:=h.obl.lt
 have hii:(i:Int)<(n:Int):=by omega
 have hi0:(0:Int)≤(i:Int):=by omega
 obtain ⟨T,hTT⟩:∃ T:ByteArray,T=⟨t.toArray⟩:=⟨_,rfl⟩
 have hTd:T.data.toList=t:=by rw [hTT]
 have HTT:=Lib.hid hTT
 rw [← hTT] at y1
 have hb0:Below w.heap.size w (w.alloc (.cells #[.int .u8 (14:Nat),.string T,.int .i64 nn,.int .i64 a,.slice A3 ks.length c3] 43)):=(Below.refl _ _).alloc (Nat.le_refl _) _
 have HBX:Hid (Blk (w.alloc (.cells #[.int .u8 (14:Nat),.string T,.int .i64 nn,.int .i64 a,.slice A3 ks.length c3] 43)) w.heap.size 43 #[.int .u8 (14:Nat),.string T,.int .i64 nn,.int .i64 a,.slice A3 ks.length c3]):=Lib.hid (Blk.new _ _ _)
 have HFA:Hid (FrY R OB B w (w.alloc (.cells #[.int .u8 (14:Nat),.string T,.int .i64 nn,.int .i64 a,.slice A3 ks.length c3] 43))):=Lib.hid (.of hb0)
 have HSA:=Lib.hid (h.below hb0)
 have HWA:=Lib.hid (hW.next HFA.out)
 have hsz:s.vars+(1+sizeL ks)≤900000:=hv
 have hsz2:s.seen.length+(1+sizeL ks)≤900000:=hsl
 have HRO:Hid (w.heap.size≠R∧w.heap.size≠OB):=Lib.hid ⟨by omega,by omega⟩
 have HALL:=Lib.hid (fun (W:World) (s1:TS) (vs1:Value) (f:FrY R OB B (w.alloc (.cells #[.int .u8 (14:Nat),.string T,.int .i64 nn,.int .i64 a,.slice A3 ks.length c3] 43)) W) (hS:StT W R OB B n cc (some ⟨b,o,none⟩) mn s1 va vf vs1) h1 h2 h3 h4=>fB w0 n cc (some ⟨b,o,none⟩) l ks hk R OB B mn va vf vs1 s1 (i+1) c3 A3 W hat2 hin (HWA.out.next f) hS h1 h2 h3 h4)
 have HT:=Lib.hid hT; have HN:=Lib.hid hn; have HG:=Lib.hid hl; have HKN:=Lib.hid hk; have HAT:=Lib.hid hat2; have HTD:=Lib.hid hTd; have HIN:=Lib.hid hin; have HC3:=Lib.hid hc3
 have HNT:Hid (nodeT i (.mk 14 t nn pp ks) s=andThenT (eD i (s.find t) s) (allT (i+1) ks)):=Lib.hid (by rw [nodeT]; rfl)
 rw [HNT.out]
 obtain ⟨res,hres⟩:∃ res,res=andThenT (eD i (s.find t) s) (allT (i+1) ks):=⟨_,rfl⟩
 rw [← hres]
 have HRS:=Lib.hid hres
 clear hT hn hl hgi hk hat2 hTT hTd hin hc3 x0 x1 x2 x3 x4 hb0 h hW hres hv hsl
 go_enter Tryz.func164,Tryz.ntmps164
 go_upto_region 2 with fail
 clear y0 y1 y2 y3 y4 lb r0 lR
 generalize w.alloc (.cells #[.int .u8 (14:Nat),.string T,.int .i64 nn,.int .i64 a,.slice A3 ks.length c3] 43)=wa at *
 have HBF:=Lib.hid (fun W (f:FrY R OB B wa W)=>f.hi _ _ _ HBX.out HRO.out.1 HRO.out.2 ⟨by decide,by decide,by decide⟩)
 have q0:wa.cell? ⟨w.heap.size,0,none⟩=some (.int .u8 (14:Nat)):=HBX.out.cell 0
 have q1:wa.cell? ⟨w.heap.size,1,none⟩=some (.string T):=HBX.out.cell 1
 have q2:wa.cell? ⟨w.heap.size,2,none⟩=some (.int .i64 nn):=HBX.out.cell 2
 have q3:wa.cell? ⟨w.heap.size,3,none⟩=some (.int .i64 a):=HBX.out.cell 3
 have q4:wa.cell? ⟨w.heap.size,4,none⟩=some (.slice A3 ks.length c3):=HBX.out.cell 4
 have lq:=HBX.out.lt
 go_wp2_with fail
 refine (jN HSA.out T (by omega)).mono ?_
 rw [HTD.out]
 rintro e w1 ⟨rfl,hb1⟩
 have HF1:Hid (FrY R OB B wa w1):=Lib.hid (.of hb1)
 have HS1:=Lib.hid (HSA.out.below hb1)
 clear hb1 q0 q1 q2 q3 q4 lq
 go_wp2_with fail
 refine (iU HT.out HN.out (HWA.out.next HF1.out) HS1.out i hi (s.find t)).mono ?_
 rintro e w2 ⟨hf2,hs2,u,rfl,hu⟩
 have HF2:Hid (FrY R OB B wa w2):=Lib.hid (HF1.out.trans hf2)
 have HS2:=Lib.hid hs2
 clear hf2 hs2 HS1 HF1
 have q4:w2.cell? ⟨w.heap.size,4,none⟩=some (.slice A3 ks.length c3):=(HBF.out w2 HF2.out).cell 4
 have lq:=(HBF.out w2 HF2.out).lt
 by_cases hneg:s.find t<0
 ·have HNG:=Lib.hid hneg
  rw [if_pos hneg] at hu
  obtain ⟨p,rfl⟩:=hu.isErr
  have HE:=Lib.hid hu
  clear hu hneg
  go_wp2_with fail
  go_ret
  have hm:eD i (s.find t) s=.error (some i,150):=if_pos HNG.out
  rw [HRS.out,hm]
  exact⟨HFA.out.trans HF2.out,_,vs,.iface 121 (.pointer p),HS2.out,rfl,rfl,⟨[],by simp [TS.put]⟩,Nat.le_add_right _ _,Nat.le_add_right _ _,rfl,HE.out⟩
 ·have HNG:=Lib.hid hneg
  rw [if_neg hneg] at hu
  subst hu
  clear hneg
  go_wp2_with fail
  refine (HALL.out w2 _ vs HF2.out HS2.out (by show s.vars+_≤_; omega) (by show s.seen.length+_≤_; omega) hal hfl).mono ?_
  rintro e w9 ⟨f9,s9,vs9,v9,hs9,ha9,hfn9,hmo9,hv9,hl9,rfl,hr9⟩
  have HP9:Hid (fq R OB B n cc (some ⟨b,o,none⟩) l mn va vf (s.put i (s.find t)) (sizeL ks) w2 (allT (i+1) ks (s.put i (s.find t))) (.returned v9) w9):=Lib.hid ⟨f9,s9,vs9,v9,hs9,ha9,hfn9,hmo9,hv9,hl9,rfl,hr9⟩
  clear f9 hs9 ha9 hfn9 hmo9 hv9 hl9 hr9
  go_wp2_with fail
  go_ret
  have hm:eD i (s.find t) s=.ok (s.put i (s.find t)):=if_neg (by have:=HNG.out; omega)
  rw [HRS.out,hm]
  exact HP9.out.more (HFA.out.trans HF2.out) (by simp only [sizeI]; omega)
theorem FD (w0:World) (n cc:Nat) (A:Option Addr) (l:List PV) (hT:bg w0 A l) (hn:n=l.length)  (t:List UInt8) (nn:Int) (pp:Nat) (ks:List Item) (hk:∀ y∈ks,NC w0 n cc A l y)  : NC w0 n cc A l (.mk 18 t nn pp ks):=by
 intro R OB B mn va vf vs s i w hat hW h hv hsl hal hfl
 obtain ⟨⟨a,hgi⟩,hat2⟩:=hat
 obtain ⟨v,hl⟩:=gP hgi
 have hi:i<n:=by rw [hn]; exact (List.getElem?_eq_some_iff.1 hl).1
 obtain ⟨b,o,rfl,x0,x1,x2,x3,x4,A3,c3,hxv0,hc30,hin⟩:=hT.at hl
 have hxv:v=.slice A3 ((offs (i+1) ks).map (fun k:Nat=>(k:Int))).length c3:=hxv0
 have hc3:((offs (i+1) ks).map (fun k:Nat=>(k:Int))).length≤c3:=hc30
 clear hxv0 hc30
 rw [List.length_map,aL] at hxv hc3
 subst hxv
 have y0:w.cell? ⟨b,o+i*5,none⟩=some (.int .u8 (18:Nat)):=(hW.below.cell (p:=⟨b,_,none⟩) (aa x0)).trans x0
 have y1:w.cell? ⟨b,o+i*5+1,none⟩=some (.string ⟨t.toArray⟩):=(hW.below.cell (p:=⟨b,_,none⟩) (aa x1)).trans x1
 have y2:w.cell? ⟨b,o+i*5+2,none⟩=some (.int .i64 nn):=(hW.below.cell (p:=⟨b,_,none⟩) (aa x2)).trans x2
 have y3:w.cell? ⟨b,o+i*5+3,none⟩=some (.int .i64 a):=(hW.below.cell (p:=⟨b,_,none⟩) (aa x3)).trans x3
 have y4:w.cell? ⟨b,o+i*5+4,none⟩=some (.slice A3 ks.length c3):=(hW.below.cell (p:=⟨b,_,none⟩) (aa x4)).trans x4
 have lb:=aa y0
 have r0:w.cell? ⟨R,0,none⟩=some (.slice (some ⟨b,o,none⟩) n cc):=h.rd.cell 0
 have lR:=h.rd.lt; have lO:=h.obl.lt
 have hii:(i:Int)<(n:Int):=by omega
 have hi0:(0:Int)≤(i:Int):=by omega
 obtain ⟨T,hTT⟩:∃ T:ByteArray,T=⟨t.toArray⟩:=⟨_,rfl⟩
 have hTd:T.data.toList=t:=by rw [hTT]
 have HTT:=Lib.hid hTT
 rw [← hTT] at y1
 have hb0:Below w.heap.size w (w.alloc (.cells #[.int .u8 (18:Nat),.string T,.int .i64 nn,.int .i64 a,.slice A3 ks.length c3] 43)):=(Below.refl _ _).alloc (Nat.le_refl _) _
 have HBX:Hid (Blk (w.alloc (.cells #[.int .u8 (18:Nat),.string T,.int .i64 nn,.int .i64 a,.slice A3 ks.length c3] 43)) w.heap.size 43 #[.int .u8 (18:Nat),.string T,.int .i64 nn,.int .i64 a,.slice A3 ks.length c3]):=Lib.hid (Blk.new _ _ _)
 have HFA:Hid (FrY R OB B w (w.alloc (.cells #[.int .u8 (18:Nat),.string T,.int .i64 nn,.int .i64 a,.slice A3 ks.length c3] 43))):=Lib.hid (.of hb0)
 have HSA:=Lib.hid (h.below hb0)
 have HWA:=Lib.hid (hW.next HFA.out)
 have hsz:s.vars+(1+sizeL ks)≤900000:=hv
 have hsz2:s.seen.length+(1+sizeL ks)≤900000:=hsl
 have HRO:Hid (w.heap.size≠R∧w.heap.size≠OB):=Lib.hid ⟨by omega,by omega⟩
 have HALL:=Lib.hid (fun (W:World) (s1:TS) (vs1:Value) (f:FrY R OB B (w.alloc (.cells #[.int .u8 (18:Nat),.string T,.int .i64 nn,.int .i64 a,.slice A3 ks.length c3] 43)) W) (hS:StT W R OB B n cc (some ⟨b,o,none⟩) mn s1 va vf vs1) h1 h2 h3 h4=>fB w0 n cc (some ⟨b,o,none⟩) l ks hk R OB B mn va vf vs1 s1 (i+1) c3 A3 W hat2 hin (HWA.out.next f) hS h1 h2 h3 h4)
 have HT:=Lib.hid hT; have HN:=Lib.hid hn; have HG:=Lib.hid hl; have HKN:=Lib.hid hk; have HAT:=Lib.hid hat2; have HTD:=Lib.hid hTd; have HIN:=Lib.hid hin; have HC3:=Lib.hid hc3
 have HNT:Hid (nodeT i (.mk 18 t nn pp ks) s=andThenT (eD i (s.find t) s) (allT (i+1) ks)):=Lib.hid (by rw [nodeT]; rfl)
 rw [HNT.out]
 obtain ⟨res,hres⟩:∃ res,res=andThenT (eD i (s.find t) s) (allT (i+1) ks):=⟨_,rfl⟩
 rw [← hres]
 have HRS:=Lib.hid hres
 clear hT hn hl hgi hk hat2 hTT hTd hin hc3 x0 x1 x2 x3 x4 hb0 h hW hres hv hsl
 go_enter Tryz.func164,Tryz.ntmps164
 go_upto_region 2 with fail
 clear y0 y1 y2 y3 y4 lb r0 lR
 generalize w.alloc (.cells #[.int .u8 (18:Nat),.string T,.int .i64 nn,.int .i64 a,.slice A3 ks.length c3] 43)=wa at *
 have HBF:=Lib.hid (fun W (f:FrY R OB B wa W)=>f.hi _ _ _ HBX.out HRO.out.1 HRO.out.2 ⟨by decide,by decide,by decide⟩)
 have q0:wa.cell? ⟨w.heap.size,0,none⟩=some (.int .u8 (18:Nat)):=HBX.out.cell 0
 have q1:wa.cell? ⟨w.heap.size,1,none⟩=some (.string T):=HBX.out.cell 1
 have q2:wa.cell? ⟨w.heap.size,2,none⟩=some (.int .i64 nn):=HBX.out.cell 2
 have q3:wa.cell? ⟨w.heap.size,3,none⟩=some (.int .i64 a):=HBX.out.cell 3
 have q4:wa.cell? ⟨w.heap.size,4,none⟩=some (.slice A3 ks.length c3):=HBX.out.cell 4
 have lq:=HBX.out.lt
 go_wp2_with fail
 refine (jN HSA.out T (by omega)).mono ?_
 rw [HTD.out]
 rintro e w1 ⟨rfl,hb1⟩
 have HF1:Hid (FrY R OB B wa w1):=Lib.hid (.of hb1)
 have HS1:=Lib.hid (HSA.out.below hb1)
 clear hb1 q0 q1 q2 q3 q4 lq
 go_wp2_with fail
 refine (iU HT.out HN.out (HWA.out.next HF1.out) HS1.out i hi (s.find t)).mono ?_
 rintro e w2 ⟨hf2,hs2,u,rfl,hu⟩
 have HF2:Hid (FrY R OB B wa w2):=Lib.hid (HF1.out.trans hf2)
 have HS2:=Lib.hid hs2
 clear hf2 hs2 HS1 HF1
 have q4:w2.cell? ⟨w.heap.size,4,none⟩=some (.slice A3 ks.length c3):=(HBF.out w2 HF2.out).cell 4
 have lq:=(HBF.out w2 HF2.out).lt
 by_cases hneg:s.find t<0
 ·have HNG:=Lib.hid hneg
  rw [if_pos hneg] at hu
  obtain ⟨p,rfl⟩:=hu.isErr
  have HE:=Lib.hid hu
  clear hu hneg
  go_wp2_with fail
  go_ret
  have hm:eD i (s.find t) s=.error (some i,150):=if_pos HNG.out
  rw [HRS.out,hm]
  exact⟨HFA.out.trans HF2.out,_,vs,.iface 121 (.pointer p),HS2.out,rfl,rfl,⟨[],by simp [TS.put]⟩,Nat.le_add_right _ _,Nat.le_add_right _ _,rfl,HE.out⟩
 ·have HNG:=Lib.hid hneg
  rw [if_neg hneg] at hu
  subst hu
  clear hneg
  go_wp2_with fail
  refine (HALL.out w2 _ vs HF2.out HS2.out (by show s.vars+_≤_; omega) (by show s.seen.length+_≤_; omega) hal hfl).mono ?_
  rintro e w9 ⟨f9,s9,vs9,v9,hs9,ha9,hfn9,hmo9,hv9,hl9,rfl,hr9⟩
  have HP9:Hid (fq R OB B n cc (some ⟨b,o,none⟩) l mn va vf (s.put i (s.find t)) (sizeL ks) w2 (allT (i+1) ks (s.put i (s.find t))) (.returned v9) w9):=Lib.hid ⟨f9,s9,vs9,v9,hs9,ha9,hfn9,hmo9,hv9,hl9,rfl,hr9⟩
  clear f9 hs9 ha9 hfn9 hmo9 hv9 hl9 hr9
  go_wp2_with fail
  go_ret
  have hm:eD i (s.find t) s=.ok (s.put i (s.find t)):=if_neg (by have:=HNG.out; omega)
  rw [HRS.out,hm]
  exact HP9.out.more (HFA.out.trans HF2.out) (by simp only [sizeI]; omega)
theorem Ij (w0:World) (n cc:Nat) (A:Option Addr) (l:List PV) (hT:bg w0 A l) (hn:n=l.length)  (t:List UInt8) (nn:Int) (pp:Nat) (ks:List Item) (hk:∀ y∈ks,NC w0 n cc A l y)  : NC w0 n cc A l (.mk 8 t nn pp ks):=by
 intro R OB B mn va vf vs s i w hat hW h hv hsl hal hfl
 obtain ⟨⟨a,hgi⟩,hat2⟩:=hat
 obtain ⟨v,hl⟩:=gP hgi
 have hi:i<n:=by rw [hn]; exact (List.getElem?_eq_some_iff.1 hl).1
 obtain ⟨b,o,rfl,x0,x1,x2,x3,x4,A3,c3,hxv0,hc30,hin⟩:=hT.at hl
 have hxv:v=.slice A3 ((offs (i+1) ks).map (fun k:Nat=>(k:Int))).length c3:=hxv0
 have hc3:((offs (i+1) ks).map (fun k:Nat=>(k:Int))).length≤c3:=hc30
 clear hxv0 hc30
 rw [List.length_map,aL] at hxv hc3
 subst hxv
 have y0:w.cell? ⟨b,o+i*5,none⟩=some (.int .u8 (8:Nat)):=(hW.below.cell (p:=⟨b,_,none⟩) (aa x0)).trans x0
 have y1:w.cell? ⟨b,o+i*5+1,none⟩=some (.string ⟨t.toArray⟩):=(hW.below.cell (p:=⟨b,_,none⟩) (aa x1)).trans x1
 have y2:w.cell? ⟨b,o+i*5+2,none⟩=some (.int .i64 nn):=(hW.below.cell (p:=⟨b,_,none⟩) (aa x2)).trans x2
 have y3:w.cell? ⟨b,o+i*5+3,none⟩=some (.int .i64 a):=(hW.below.cell (p:=⟨b,_,none⟩) (aa x3)).trans x3
 have y4:w.cell? ⟨b,o+i*5+4,none⟩=some (.slice A3 ks.length c3):=(hW.below.cell (p:=⟨b,_,none⟩) (aa x4)).trans x4
 have lb:=aa y0
 have r0:w.cell? ⟨R,0,none⟩=some (.slice (some ⟨b,o,none⟩) n cc):=h.rd.cell 0
 have lR:=h.rd.lt; have lO:=h.obl.lt
 have hii:(i:Int)<(n:Int):=by omega
 have hi0:(0:Int)≤(i:Int):=by omega
 obtain ⟨T,hTT⟩:∃ T:ByteArray,T=⟨t.toArray⟩:=⟨_,rfl⟩
 have hTd:T.data.toList=t:=by rw [hTT]
 have HTT:=Lib.hid hTT
 rw [← hTT] at y1
 have hb0:Below w.heap.size w (w.alloc (.cells #[.int .u8 (8:Nat),.string T,.int .i64 nn,.int .i64 a,.slice A3 ks.length c3] 43)):=(Below.refl _ _).alloc (Nat.le_refl _) _
 have HBX:Hid (Blk (w.alloc (.cells #[.int .u8 (8:Nat),.string T,.int .i64 nn,.int .i64 a,.slice A3 ks.length c3] 43)) w.heap.size 43 #[.int .u8 (8:Nat),.string T,.int .i64 nn,.int .i64 a,.slice A3 ks.length c3]):=Lib.hid (Blk.new _ _ _)
 have HFA:Hid (FrY R OB B w (w.alloc (.cells #[.int .u8 (8:Nat),.string T,.int .i64 nn,.int .i64 a,.slice A3 ks.length c3] 43))):=Lib.hid (.of hb0)
 have HSA:=Lib.hid (h.below hb0)
 have HWA:=Lib.hid (hW.next HFA.out)
 have hsz:s.vars+(1+sizeL ks)≤900000:=hv
 have hsz2:s.seen.length+(1+sizeL ks)≤900000:=hsl
 have HRO:Hid (w.heap.size≠R∧w.heap.size≠OB):=Lib.hid ⟨by omega,by omega⟩
 have HALL:=Lib.hid (fun (W:World) (s1:TS) (vs1:Value) (f:FrY R OB B (w.alloc (.cells #[.int .u8 (8:Nat),.string T,.int .i64 nn,.int .i64 a,.slice A3 ks.length c3] 43)) W) (hS:StT W R OB B n cc (some ⟨b,o,none⟩) mn s1 va vf vs1) h1 h2 h3 h4=>fB w0 n cc (some ⟨b,o,none⟩) l ks hk R OB B mn va vf vs1 s1 (i+1) c3 A3 W hat2 hin (HWA.out.next f) hS h1 h2 h3 h4)
 have HT:=Lib.hid hT; have HN:=Lib.hid hn; have HG:=Lib.hid hl; have HKN:=Lib.hid hk; have HAT:=Lib.hid hat2; have HTD:=Lib.hid hTd; have HIN:=Lib.hid hin; have HC3:=Lib.hid hc3
 have HNT:Hid (nodeT i (.mk 8 t nn pp ks) s=andThenT (eD i (s.array t) s) (allT (i+1) ks)):=Lib.hid (by rw [nodeT]; rfl)
 rw [HNT.out]
 obtain ⟨res,hres⟩:∃ res,res=andThenT (eD i (s.array t) s) (allT (i+1) ks):=⟨_,rfl⟩
 rw [← hres]
 have HRS:=Lib.hid hres
 clear hT hn hl hgi hk hat2 hTT hTd hin hc3 x0 x1 x2 x3 x4 hb0 h hW hres hv hsl
 go_enter Tryz.func164,Tryz.ntmps164
 go_upto_region 2 with fail
 clear y0 y1 y2 y3 y4 lb r0 lR
 generalize w.alloc (.cells #[.int .u8 (8:Nat),.string T,.int .i64 nn,.int .i64 a,.slice A3 ks.length c3] 43)=wa at *
 have HBF:=Lib.hid (fun W (f:FrY R OB B wa W)=>f.hi _ _ _ HBX.out HRO.out.1 HRO.out.2 ⟨by decide,by decide,by decide⟩)
 have q0:wa.cell? ⟨w.heap.size,0,none⟩=some (.int .u8 (8:Nat)):=HBX.out.cell 0
 have q1:wa.cell? ⟨w.heap.size,1,none⟩=some (.string T):=HBX.out.cell 1
 have q2:wa.cell? ⟨w.heap.size,2,none⟩=some (.int .i64 nn):=HBX.out.cell 2
 have q3:wa.cell? ⟨w.heap.size,3,none⟩=some (.int .i64 a):=HBX.out.cell 3
 have q4:wa.cell? ⟨w.heap.size,4,none⟩=some (.slice A3 ks.length c3):=HBX.out.cell 4
 have lq:=HBX.out.lt
 go_wp2_with fail
 refine (nW HSA.out T (by omega)).mono ?_
 rw [HTD.out]
 rintro e w1 ⟨rfl,hb1⟩
 have HF1:Hid (FrY R OB B wa w1):=Lib.hid (.of hb1)
 have HS1:=Lib.hid (HSA.out.below hb1)
 clear hb1 q0 q1 q2 q3 q4 lq
 go_wp2_with fail
 refine (iU HT.out HN.out (HWA.out.next HF1.out) HS1.out i hi (s.array t)).mono ?_
 rintro e w2 ⟨hf2,hs2,u,rfl,hu⟩
 have HF2:Hid (FrY R OB B wa w2):=Lib.hid (HF1.out.trans hf2)
 have HS2:=Lib.hid hs2
 clear hf2 hs2 HS1 HF1
 have q4:w2.cell? ⟨w.heap.size,4,none⟩=some (.slice A3 ks.length c3):=(HBF.out w2 HF2.out).cell 4
 have lq:=(HBF.out w2 HF2.out).lt
 by_cases hneg:s.array t<0
 ·have HNG:=Lib.hid hneg
  rw [if_pos hneg] at hu
  obtain ⟨p,rfl⟩:=hu.isErr
  have HE:=Lib.hid hu
  clear hu hneg
  go_wp2_with fail
  go_ret
  have hm:eD i (s.array t) s=.error (some i,150):=if_pos HNG.out
  rw [HRS.out,hm]
  exact⟨HFA.out.trans HF2.out,_,vs,.iface 121 (.pointer p),HS2.out,rfl,rfl,⟨[],by simp [TS.put]⟩,Nat.le_add_right _ _,Nat.le_add_right _ _,rfl,HE.out⟩
 ·have HNG:=Lib.hid hneg
  rw [if_neg hneg] at hu
  subst hu
  clear hneg
  go_wp2_with fail
  refine (HALL.out w2 _ vs HF2.out HS2.out (by show s.vars+_≤_; omega) (by show s.seen.length+_≤_; omega) hal hfl).mono ?_
  rintro e w9 ⟨f9,s9,vs9,v9,hs9,ha9,hfn9,hmo9,hv9,hl9,rfl,hr9⟩
  have HP9:Hid (fq R OB B n cc (some ⟨b,o,none⟩) l mn va vf (s.put i (s.array t)) (sizeL ks) w2 (allT (i+1) ks (s.put i (s.array t))) (.returned v9) w9):=Lib.hid ⟨f9,s9,vs9,v9,hs9,ha9,hfn9,hmo9,hv9,hl9,rfl,hr9⟩
  clear f9 hs9 ha9 hfn9 hmo9 hv9 hl9 hr9
  go_wp2_with fail
  go_ret
  have hm:eD i (s.array t) s=.ok (s.put i (s.array t)):=if_neg (by have:=HNG.out; omega)
  rw [HRS.out,hm]
  exact HP9.out.more (HFA.out.trans HF2.out) (by simp only [sizeI]; omega)
theorem Fb (w0:World) (n cc:Nat) (A:Option Addr) (l:List PV) (hT:bg w0 A l) (hn:n=l.length)  (t:List UInt8) (nn:Int) (pp:Nat) (ks:List Item) (hk:∀ y∈ks,NC w0 n cc A l y)  : NC w0 n cc A l (.mk 19 t nn pp ks):=by
 intro R OB B mn va vf vs s i w hat hW h hv hsl hal hfl
 obtain ⟨⟨a,hgi⟩,hat2⟩:=hat
 obtain ⟨v,hl⟩:=gP hgi
 have hi:i<n:=by rw [hn]; exact (List.getElem?_eq_some_iff.1 hl).1
 obtain ⟨b,o,rfl,x0,x1,x2,x3,x4,A3,c3,hxv0,hc30,hin⟩:=hT.at hl
 have hxv:v=.slice A3 ((offs (i+1) ks).map (fun k:Nat=>(k:Int))).length c3:=hxv0
 have hc3:((offs (i+1) ks).map (fun k:Nat=>(k:Int))).length≤c3:=hc30
 clear hxv0 hc30
 rw [List.length_map,aL] at hxv hc3
 subst hxv
 have y0:w.cell? ⟨b,o+i*5,none⟩=some (.int .u8 (19:Nat)):=(hW.below.cell (p:=⟨b,_,none⟩) (aa x0)).trans x0
 have y1:w.cell? ⟨b,o+i*5+1,none⟩=some (.string ⟨t.toArray⟩):=(hW.below.cell (p:=⟨b,_,none⟩) (aa x1)).trans x1
 have y2:w.cell? ⟨b,o+i*5+2,none⟩=some (.int .i64 nn):=(hW.below.cell (p:=⟨b,_,none⟩) (aa x2)).trans x2
 have y3:w.cell? ⟨b,o+i*5+3,none⟩=some (.int .i64 a):=(hW.below.cell (p:=⟨b,_,none⟩) (aa x3)).trans x3
 have y4:w.cell? ⟨b,o+i*5+4,none⟩=some (.slice A3 ks.length c3):=(hW.below.cell (p:=⟨b,_,none⟩) (aa x4)).trans x4
 have lb:=aa y0
 have r0:w.cell? ⟨R,0,none⟩=some (.slice (some ⟨b,o,none⟩) n cc):=h.rd.cell 0
 have lR:=h.rd.lt; have lO:=h.obl.lt
 have hii:(i:Int)<(n:Int):=by omega
 have hi0:(0:Int)≤(i:Int):=by omega
 obtain ⟨T,hTT⟩:∃ T:ByteArray,T=⟨t.toArray⟩:=⟨_,rfl⟩
 have hTd:T.data.toList=t:=by rw [hTT]
 have HTT:=Lib.hid hTT
 rw [← hTT] at y1
 have hb0:Below w.heap.size w (w.alloc (.cells #[.int .u8 (19:Nat),.string T,.int .i64 nn,.int .i64 a,.slice A3 ks.length c3] 43)):=(Below.refl _ _).alloc (Nat.le_refl _) _
 have HBX:Hid (Blk (w.alloc (.cells #[.int .u8 (19:Nat),.string T,.int .i64 nn,.int .i64 a,.slice A3 ks.length c3] 43)) w.heap.size 43 #[.int .u8 (19:Nat),.string T,.int .i64 nn,.int .i64 a,.slice A3 ks.length c3]):=Lib.hid (Blk.new _ _ _)
 have HFA:Hid (FrY R OB B w (w.alloc (.cells #[.int .u8 (19:Nat),.string T,.int .i64 nn,.int .i64 a,.slice A3 ks.length c3] 43))):=Lib.hid (.of hb0)
 have HSA:=Lib.hid (h.below hb0)
 have HWA:=Lib.hid (hW.next HFA.out)
 have hsz:s.vars+(1+sizeL ks)≤900000:=hv
 have hsz2:s.seen.length+(1+sizeL ks)≤900000:=hsl
 have HRO:Hid (w.heap.size≠R∧w.heap.size≠OB):=Lib.hid ⟨by omega,by omega⟩
 have HALL:=Lib.hid (fun (W:World) (s1:TS) (vs1:Value) (f:FrY R OB B (w.alloc (.cells #[.int .u8 (19:Nat),.string T,.int .i64 nn,.int .i64 a,.slice A3 ks.length c3] 43)) W) (hS:StT W R OB B n cc (some ⟨b,o,none⟩) mn s1 va vf vs1) h1 h2 h3 h4=>fB w0 n cc (some ⟨b,o,none⟩) l ks hk R OB B mn va vf vs1 s1 (i+1) c3 A3 W hat2 hin (HWA.out.next f) hS h1 h2 h3 h4)
 have HT:=Lib.hid hT; have HN:=Lib.hid hn; have HG:=Lib.hid hl; have HKN:=Lib.hid hk; have HAT:=Lib.hid hat2; have HTD:=Lib.hid hTd; have HIN:=Lib.hid hin; have HC3:=Lib.hid hc3
 have HNT:Hid (nodeT i (.mk 19 t nn pp ks) s=andThenT (eD i (s.array t) s) (allT (i+1) ks)):=Lib.hid (by rw [nodeT]; rfl)
 rw [HNT.out]
 obtain ⟨res,hres⟩:∃ res,res=andThenT (eD i (s.array t) s) (allT (i+1) ks):=⟨_,rfl⟩
 rw [← hres]
 have HRS:=Lib.hid hres
 clear hT hn hl hgi hk hat2 hTT hTd hin hc3 x0 x1 x2 x3 x4 hb0 h hW hres hv hsl
 go_enter Tryz.func164,Tryz.ntmps164
 go_upto_region 2 with fail
 clear y0 y1 y2 y3 y4 lb r0 lR
 generalize w.alloc (.cells #[.int .u8 (19:Nat),.string T,.int .i64 nn,.int .i64 a,.slice A3 ks.length c3] 43)=wa at *
 have HBF:=Lib.hid (fun W (f:FrY R OB B wa W)=>f.hi _ _ _ HBX.out HRO.out.1 HRO.out.2 ⟨by decide,by decide,by decide⟩)
 have q0:wa.cell? ⟨w.heap.size,0,none⟩=some (.int .u8 (19:Nat)):=HBX.out.cell 0
 have q1:wa.cell? ⟨w.heap.size,1,none⟩=some (.string T):=HBX.out.cell 1
 have q2:wa.cell? ⟨w.heap.size,2,none⟩=some (.int .i64 nn):=HBX.out.cell 2
 have q3:wa.cell? ⟨w.heap.size,3,none⟩=some (.int .i64 a):=HBX.out.cell 3
 have q4:wa.cell? ⟨w.heap.size,4,none⟩=some (.slice A3 ks.length c3):=HBX.out.cell 4
 have lq:=HBX.out.lt
 go_wp2_with fail
 refine (nW HSA.out T (by omega)).mono ?_
 rw [HTD.out]
 rintro e w1 ⟨rfl,hb1⟩
 have HF1:Hid (FrY R OB B wa w1):=Lib.hid (.of hb1)
 have HS1:=Lib.hid (HSA.out.below hb1)
 clear hb1 q0 q1 q2 q3 q4 lq
 go_wp2_with fail
 refine (iU HT.out HN.out (HWA.out.next HF1.out) HS1.out i hi (s.array t)).mono ?_
 rintro e w2 ⟨hf2,hs2,u,rfl,hu⟩
 have HF2:Hid (FrY R OB B wa w2):=Lib.hid (HF1.out.trans hf2)
 have HS2:=Lib.hid hs2
 clear hf2 hs2 HS1 HF1
 have q4:w2.cell? ⟨w.heap.size,4,none⟩=some (.slice A3 ks.length c3):=(HBF.out w2 HF2.out).cell 4
 have lq:=(HBF.out w2 HF2.out).lt
 by_cases hneg:s.array t<0
 ·have HNG:=Lib.hid hneg
  rw [if_pos hneg] at hu
  obtain ⟨p,rfl⟩:=hu.isErr
  have HE:=Lib.hid hu
  clear hu hneg
  go_wp2_with fail
  go_ret
  have hm:eD i (s.array t) s=.error (some i,150):=if_pos HNG.out
  rw [HRS.out,hm]
  exact⟨HFA.out.trans HF2.out,_,vs,.iface 121 (.pointer p),HS2.out,rfl,rfl,⟨[],by simp [TS.put]⟩,Nat.le_add_right _ _,Nat.le_add_right _ _,rfl,HE.out⟩
 ·have HNG:=Lib.hid hneg
  rw [if_neg hneg] at hu
  subst hu
  clear hneg
  go_wp2_with fail
  refine (HALL.out w2 _ vs HF2.out HS2.out (by show s.vars+_≤_; omega) (by show s.seen.length+_≤_; omega) hal hfl).mono ?_
  rintro e w9 ⟨f9,s9,vs9,v9,hs9,ha9,hfn9,hmo9,hv9,hl9,rfl,hr9⟩
  have HP9:Hid (fq R OB B n cc (some ⟨b,o,none⟩) l mn va vf (s.put i (s.array t)) (sizeL ks) w2 (allT (i+1) ks (s.put i (s.array t))) (.returned v9) w9):=Lib.hid ⟨f9,s9,vs9,v9,hs9,ha9,hfn9,hmo9,hv9,hl9,rfl,hr9⟩
  clear f9 hs9 ha9 hfn9 hmo9 hv9 hl9 hr9
  go_wp2_with fail
  go_ret
  have hm:eD i (s.array t) s=.ok (s.put i (s.array t)):=if_neg (by have:=HNG.out; omega)
  rw [HRS.out,hm]
  exact HP9.out.more (HFA.out.trans HF2.out) (by simp only [sizeI]; omega)
theorem Gl (w0:World) (n cc:Nat) (A:Option Addr) (l:List PV) (hT:bg w0 A l) (hn:n=l.length)  (t:List UInt8) (nn:Int) (pp:Nat) (ks:List Item) (hk:∀ y∈ks,NC w0 n cc A l y)  : NC w0 n cc A l (.mk 16 t nn pp ks):=by
 intro R OB B mn va vf vs s i w hat hW h hv hsl hal hfl
 obtain ⟨⟨a,hgi⟩,hat2⟩:=hat
 obtain ⟨v,hl⟩:=gP hgi
 have hi:i<n:=by rw [hn]; exact (List.getElem?_eq_some_iff.1 hl).1
 obtain ⟨b,o,rfl,x0,x1,x2,x3,x4,A3,c3,hxv0,hc30,hin⟩:=hT.at hl
 have hxv:v=.slice A3 ((offs (i+1) ks).map (fun k:Nat=>(k:Int))).length c3:=hxv0
 have hc3:((offs (i+1) ks).map (fun k:Nat=>(k:Int))).length≤c3:=hc30
 clear hxv0 hc30
 rw [List.length_map,aL] at hxv hc3
 subst hxv
 have y0:w.cell? ⟨b,o+i*5,none⟩=some (.int .u8 (16:Nat)):=(hW.below.cell (p:=⟨b,_,none⟩) (aa x0)).trans x0
 have y1:w.cell? ⟨b,o+i*5+1,none⟩=some (.string ⟨t.toArray⟩):=(hW.below.cell (p:=⟨b,_,none⟩) (aa x1)).trans x1
 have y2:w.cell? ⟨b,o+i*5+2,none⟩=some (.int .i64 nn):=(hW.below.cell (p:=⟨b,_,none⟩) (aa x2)).trans x2
 have y3:w.cell? ⟨b,o+i*5+3,none⟩=some (.int .i64 a):=(hW.below.cell (p:=⟨b,_,none⟩) (aa x3)).trans x3
 have y4:w.cell? ⟨b,o+i*5+4,none⟩=some (.slice A3 ks.length c3):=(hW.below.cell (p:=⟨b,_,none⟩) (aa x4)).trans x4
 have lb:=aa y0
 have r0:w.cell? ⟨R,0,none⟩=some (.slice (some ⟨b,o,none⟩) n cc):=h.rd.cell 0
 have lR:=h.rd.lt; have lO:=h.obl.lt
 have hii:(i:Int)<(n:Int):=by omega
 have hi0:(0:Int)≤(i:Int):=by omega
 obtain ⟨T,hTT⟩:∃ T:ByteArray,T=⟨t.toArray⟩:=⟨_,rfl⟩
 have hTd:T.data.toList=t:=by rw [hTT]
 have HTT:=Lib.hid hTT
 rw [← hTT] at y1
 have hb0:Below w.heap.size w (w.alloc (.cells #[.int .u8 (16:Nat),.string T,.int .i64 nn,.int .i64 a,.slice A3 ks.length c3] 43)):=(Below.refl _ _).alloc (Nat.le_refl _) _
 have HBX:Hid (Blk (w.alloc (.cells #[.int .u8 (16:Nat),.string T,.int .i64 nn,.int .i64 a,.slice A3 ks.length c3] 43)) w.heap.size 43 #[.int .u8 (16:Nat),.string T,.int .i64 nn,.int .i64 a,.slice A3 ks.length c3]):=Lib.hid (Blk.new _ _ _)
 have HFA:Hid (FrY R OB B w (w.alloc (.cells #[.int .u8 (16:Nat),.string T,.int .i64 nn,.int .i64 a,.slice A3 ks.length c3] 43))):=Lib.hid (.of hb0)
 have HSA:=Lib.hid (h.below hb0)
 have HWA:=Lib.hid (hW.next HFA.out)
 have hsz:s.vars+(1+sizeL ks)≤900000:=hv
 have hsz2:s.seen.length+(1+sizeL ks)≤900000:=hsl
 have HRO:Hid (w.heap.size≠R∧w.heap.size≠OB):=Lib.hid ⟨by omega,by omega⟩
 have HALL:=Lib.hid (fun (W:World) (s1:TS) (vs1:Value) (f:FrY R OB B (w.alloc (.cells #[.int .u8 (16:Nat),.string T,.int .i64 nn,.int .i64 a,.slice A3 ks.length c3] 43)) W) (hS:StT W R OB B n cc (some ⟨b,o,none⟩) mn s1 va vf vs1) h1 h2 h3 h4=>fB w0 n cc (some ⟨b,o,none⟩) l ks hk R OB B mn va vf vs1 s1 (i+1) c3 A3 W hat2 hin (HWA.out.next f) hS h1 h2 h3 h4)
 have HT:=Lib.hid hT; have HN:=Lib.hid hn; have HG:=Lib.hid hl; have HKN:=Lib.hid hk; have HAT:=Lib.hid hat2; have HTD:=Lib.hid hTd; have HIN:=Lib.hid hin; have HC3:=Lib.hid hc3
 have HNT:Hid (nodeT i (.mk 16 t nn pp ks) s=andThenT (eD i (s.function t) s) (allT (i+1) ks)):=Lib.hid (by rw [nodeT]; rfl)
 rw [HNT.out]
 obtain ⟨res,hres⟩:∃ res,res=andThenT (eD i (s.function t) s) (allT (i+1) ks):=⟨_,rfl⟩
 rw [← hres]
 have HRS:=Lib.hid hres
 clear hT hn hl hgi hk hat2 hTT hTd hin hc3 x0 x1 x2 x3 x4 hb0 h hW hres hv hsl
 go_enter Tryz.func164,Tryz.ntmps164
 go_upto_region 2 with fail
 clear y0 y1 y2 y3 y4 lb r0 lR
 generalize w.alloc (.cells #[.int .u8 (16:Nat),.string T,.int .i64 nn,.int .i64 a,.slice A3 ks.length c3] 43)=wa at *
 have HBF:=Lib.hid (fun W (f:FrY R OB B wa W)=>f.hi _ _ _ HBX.out HRO.out.1 HRO.out.2 ⟨by decide,by decide,by decide⟩)
 have q0:wa.cell? ⟨w.heap.size,0,none⟩=some (.int .u8 (16:Nat)):=HBX.out.cell 0
 have q1:wa.cell? ⟨w.heap.size,1,none⟩=some (.string T):=HBX.out.cell 1
 have q2:wa.cell? ⟨w.heap.size,2,none⟩=some (.int .i64 nn):=HBX.out.cell 2
 have q3:wa.cell? ⟨w.heap.size,3,none⟩=some (.int .i64 a):=HBX.out.cell 3
 have q4:wa.cell? ⟨w.heap.size,4,none⟩=some (.slice A3 ks.length c3):=HBX.out.cell 4
 have lq:=HBX.out.lt
 go_wp2_with fail
 refine (kY HSA.out T (by omega)).mono ?_
 rw [HTD.out]
 rintro e w1 ⟨rfl,hb1⟩
 have HF1:Hid (FrY R OB B wa w1):=Lib.hid (.of hb1)
 have HS1:=Lib.hid (HSA.out.below hb1)
 clear hb1 q0 q1 q2 q3 q4 lq
 go_wp2_with fail
 refine (iU HT.out HN.out (HWA.out.next HF1.out) HS1.out i hi (s.function t)).mono ?_
 rintro e w2 ⟨hf2,hs2,u,rfl,hu⟩
 have HF2:Hid (FrY R OB B wa w2):=Lib.hid (HF1.out.trans hf2)
 have HS2:=Lib.hid hs2
 clear hf2 hs2 HS1 HF1
 have q4:w2.cell? ⟨w.heap.size,4,none⟩=some (.slice A3 ks.length c3):=(HBF.out w2 HF2.out).cell 4
 have lq:=(HBF.out w2 HF2.out).lt
 by_cases hneg:s.function t<0
 ·have HNG:=Lib.hid hneg
  rw [if_pos hneg] at hu
  obtain ⟨p,rfl⟩:=hu.isErr
  have HE:=Lib.hid hu
  clear hu hneg
  go_wp2_with fail
  go_ret
  have hm:eD i (s.function t) s=.error (some i,150):=if_pos HNG.out
  rw [HRS.out,hm]
  exact⟨HFA.out.trans HF2.out,_,vs,.iface 121 (.pointer p),HS2.out,rfl,rfl,⟨[],by simp [TS.put]⟩,Nat.le_add_right _ _,Nat.le_add_right _ _,rfl,HE.out⟩
 ·have HNG:=Lib.hid hneg
  rw [if_neg hneg] at hu
  subst hu
  clear hneg
  go_wp2_with fail
  refine (HALL.out w2 _ vs HF2.out HS2.out (by show s.vars+_≤_; omega) (by show s.seen.length+_≤_; omega) hal hfl).mono ?_
  rintro e w9 ⟨f9,s9,vs9,v9,hs9,ha9,hfn9,hmo9,hv9,hl9,rfl,hr9⟩
  have HP9:Hid (fq R OB B n cc (some ⟨b,o,none⟩) l mn va vf (s.put i (s.function t)) (sizeL ks) w2 (allT (i+1) ks (s.put i (s.function t))) (.returned v9) w9):=Lib.hid ⟨f9,s9,vs9,v9,hs9,ha9,hfn9,hmo9,hv9,hl9,rfl,hr9⟩
  clear f9 hs9 ha9 hfn9 hmo9 hv9 hl9 hr9
  go_wp2_with fail
  go_ret
  have hm:eD i (s.function t) s=.ok (s.put i (s.function t)):=if_neg (by have:=HNG.out; omega)
  rw [HRS.out,hm]
  exact HP9.out.more (HFA.out.trans HF2.out) (by simp only [sizeI]; omega)
theorem Bj (w0:World) (n cc:Nat) (A:Option Addr) (l:List PV) (hT:bg w0 A l) (hn:n=l.length) (k:Nat) (t:List UInt8) (nn:Int) (pp:Nat) (ks:List Item) (hk:∀ y∈ks,NC w0 n cc A l y) (hkk:k≠4∧k≠5∧k≠6∧k≠15∧k≠7∧k≠14∧k≠18∧k≠8∧k≠19∧k≠16):NC w0 n cc A l (.mk k t nn pp ks):=by
 intro R OB B mn va vf vs s i w hat hW h hv hsl hal hfl
 obtain ⟨⟨a,hgi⟩,hat2⟩:=hat
 obtain ⟨v,hl⟩:=gP hgi
 have hi:i<n:=by rw [hn]; exact (List.getElem?_eq_some_iff.1 hl).1
 obtain ⟨b,o,rfl,x0,x1,x2,x3,x4,A3,c3,hxv0,hc30,hin⟩:=hT.at hl
 have hxv:v=.slice A3 ((offs (i+1) ks).map (fun k:Nat=>(k:Int))).length c3:=hxv0
 have hc3:((offs (i+1) ks).map (fun k:Nat=>(k:Int))).length≤c3:=hc30
 clear hxv0 hc30
 rw [List.length_map,aL] at hxv hc3
 subst hxv
 have y0:w.cell? ⟨b,o+i*5,none⟩=some (.int .u8 (k:Nat)):=(hW.below.cell (p:=⟨b,_,none⟩) (aa x0)).trans x0
 have y1:w.cell? ⟨b,o+i*5+1,none⟩=some (.string ⟨t.toArray⟩):=(hW.below.cell (p:=⟨b,_,none⟩) (aa x1)).trans x1
 have y2:w.cell? ⟨b,o+i*5+2,none⟩=some (.int .i64 nn):=(hW.below.cell (p:=⟨b,_,none⟩) (aa x2)).trans x2
 have y3:w.cell? ⟨b,o+i*5+3,none⟩=some (.int .i64 a):=(hW.below.cell (p:=⟨b,_,none⟩) (aa x3)).trans x3
 have y4:w.cell? ⟨b,o+i*5+4,none⟩=some (.slice A3 ks.length c3):=(hW.below.cell (p:=⟨b,_,none⟩) (aa x4)).trans x4
 have lb:=aa y0
 have r0:w.cell? ⟨R,0,none⟩=some (.slice (some ⟨b,o,none⟩) n cc):=h.rd.cell 0
 have lR:=h.rd.lt; have lO:=h.obl.lt
 have hii:(i:Int)<(n:Int):=by omega
 have hi0:(0:Int)≤(i:Int):=by omega
 obtain ⟨T,hTT⟩:∃ T:ByteArray,T=⟨t.toArray⟩:=⟨_,rfl⟩
 have hTd:T.data.toList=t:=by rw [hTT]
 have HTT:=Lib.hid hTT
 rw [← hTT] at y1
 have hb0:Below w.heap.size w (w.alloc (.cells #[.int .u8 (k:Nat),.string T,.int .i64 nn,.int .i64 a,.slice A3 ks.length c3] 43)):=(Below.refl _ _).alloc (Nat.le_refl _) _
 have HBX:Hid (Blk (w.alloc (.cells #[.int .u8 (k:Nat),.string T,.int .i64 nn,.int .i64 a,.slice A3 ks.length c3] 43)) w.heap.size 43 #[.int .u8 (k:Nat),.string T,.int .i64 nn,.int .i64 a,.slice A3 ks.length c3]):=Lib.hid (Blk.new _ _ _)
 have HFA:Hid (FrY R OB B w (w.alloc (.cells #[.int .u8 (k:Nat),.string T,.int .i64 nn,.int .i64 a,.slice A3 ks.length c3] 43))):=Lib.hid (.of hb0)
 have HSA:=Lib.hid (h.below hb0)
 have HWA:=Lib.hid (hW.next HFA.out)
 have hsz:s.vars+(1+sizeL ks)≤900000:=hv
 have hsz2:s.seen.length+(1+sizeL ks)≤900000:=hsl
 have HRO:Hid (w.heap.size≠R∧w.heap.size≠OB):=Lib.hid ⟨by omega,by omega⟩
 have HALL:=Lib.hid (fun (W:World) (s1:TS) (vs1:Value) (f:FrY R OB B (w.alloc (.cells #[.int .u8 (k:Nat),.string T,.int .i64 nn,.int .i64 a,.slice A3 ks.length c3] 43)) W) (hS:StT W R OB B n cc (some ⟨b,o,none⟩) mn s1 va vf vs1) h1 h2 h3 h4=>fB w0 n cc (some ⟨b,o,none⟩) l ks hk R OB B mn va vf vs1 s1 (i+1) c3 A3 W hat2 hin (HWA.out.next f) hS h1 h2 h3 h4)
 have HT:=Lib.hid hT; have HN:=Lib.hid hn; have HG:=Lib.hid hl; have HKN:=Lib.hid hk; have HAT:=Lib.hid hat2; have HTD:=Lib.hid hTd; have HIN:=Lib.hid hin; have HC3:=Lib.hid hc3
 have HNT:Hid (nodeT i (.mk k t nn pp ks) s=allT (i+1) ks s):=Lib.hid (by unfold nodeT; obtain ⟨a1,a2,a3,a4,a5,a6,a7,a8,a9,a10⟩:=hkk; rw [if_neg a1,if_neg a2,if_neg a3,if_neg a4]; unfold CB; rw [if_neg (by omega),if_neg (by omega),if_neg a10]; rfl)
 rw [HNT.out]
 obtain ⟨res,hres⟩:∃ res,res=allT (i+1) ks s:=⟨_,rfl⟩
 rw [← hres]
 have HRS:=Lib.hid hres
 clear hT hn hl hgi hk hat2 hTT hTd hin hc3 x0 x1 x2 x3 x4 hb0 h hW hres hv hsl
 go_enter Tryz.func164,Tryz.ntmps164
 go_upto_region 2 with fail
 clear y0 y1 y2 y3 y4 lb r0 lR
 generalize w.alloc (.cells #[.int .u8 (k:Nat),.string T,.int .i64 nn,.int .i64 a,.slice A3 ks.length c3] 43)=wa at *
 have HBF:=Lib.hid (fun W (f:FrY R OB B wa W)=>f.hi _ _ _ HBX.out HRO.out.1 HRO.out.2 ⟨by decide,by decide,by decide⟩)
 have q0:wa.cell? ⟨w.heap.size,0,none⟩=some (.int .u8 (k:Nat)):=HBX.out.cell 0
 have q1:wa.cell? ⟨w.heap.size,1,none⟩=some (.string T):=HBX.out.cell 1
 have q2:wa.cell? ⟨w.heap.size,2,none⟩=some (.int .i64 nn):=HBX.out.cell 2
 have q3:wa.cell? ⟨w.heap.size,3,none⟩=some (.int .i64 a):=HBX.out.cell 3
 have q4:wa.cell? ⟨w.heap.size,4,none⟩=some (.slice A3 ks.length c3):=HBX.out.cell 4
 have lq:=HBX.out.lt
 have g4:((k:Int) == 4)=false:=by simp; omega
 have g5:((k:Int) == 5)=false:=by simp; omega
 have g6:((k:Int) == 6)=false:=by simp; omega
 have g15:((k:Int) == 15)=false:=by simp; omega
 have g7:((k:Int) == 7)=false:=by simp; omega
 have g14:((k:Int) == 14)=false:=by simp; omega
 have g18:((k:Int) == 18)=false:=by simp; omega
 have g8:((k:Int) == 8)=false:=by simp; omega
 have g19:((k:Int) == 19)=false:=by simp; omega
 have g16:((k:Int) == 16)=false:=by simp; omega
 have HKK:=Lib.hid hkk
 clear hkk
 go_wp2_with fail
 refine (HALL.out wa s vs (FrY.refl _ _ _ _) HSA.out (by omega) (by omega) hal hfl).mono ?_
 rintro e w9 ⟨f9,s9,vs9,v9,hs9,ha9,hfn9,hmo9,hv9,hl9,rfl,hr9⟩
 have HP9:Hid (fq R OB B n cc (some ⟨b,o,none⟩) l mn va vf s (sizeL ks) wa (allT (i+1) ks s) (.returned v9) w9):=Lib.hid ⟨f9,s9,vs9,v9,hs9,ha9,hfn9,hmo9,hv9,hl9,rfl,hr9⟩
 clear f9 hs9 ha9 hfn9 hmo9 hv9 hl9 hr9
 go_wp2_with fail
 go_ret
 rw [HRS.out]
 exact HP9.out.more HFA.out (by simp only [sizeI]; omega)
theorem D7 (w0:World) (n cc:Nat) (A:Option Addr) (l:List PV) (hT:bg w0 A l) (hn:n=l.length)  (t:List UInt8) (nn:Int) (pp:Nat) (ks:List Item) (hk:∀ y∈ks,NC w0 n cc A l y) (hco:∃ tc nc pc r,ks=.mk 16 tc nc pc [] :: r):NC w0 n cc A l (.mk 15 t nn pp ks):=by
 intro R OB B mn va vf vs s i w hat hW h hv hsl hal hfl
 obtain ⟨⟨a,hgi⟩,hat2⟩:=hat
 obtain ⟨v,hl⟩:=gP hgi
 have hi:i<n:=by rw [hn]; exact (List.getElem?_eq_some_iff.1 hl).1
 obtain ⟨b,o,rfl,x0,x1,x2,x3,x4,A3,c3,hxv0,hc30,hin⟩:=hT.at hl
 have hxv:v=.slice A3 ((offs (i+1) ks).map (fun k:Nat=>(k:Int))).length c3:=hxv0
 have hc3:((offs (i+1) ks).map (fun k:Nat=>(k:Int))).length≤c3:=hc30
 clear hxv0 hc30
 rw [List.length_map,aL] at hxv hc3
 subst hxv
 have y0:w.cell? ⟨b,o+i*5,none⟩=some (.int .u8 (15:Nat)):=(hW.below.cell (p:=⟨b,_,none⟩) (aa x0)).trans x0
 have y1:w.cell? ⟨b,o+i*5+1,none⟩=some (.string ⟨t.toArray⟩):=(hW.below.cell (p:=⟨b,_,none⟩) (aa x1)).trans x1
 have y2:w.cell? ⟨b,o+i*5+2,none⟩=some (.int .i64 nn):=(hW.below.cell (p:=⟨b,_,none⟩) (aa x2)).trans x2
 have y3:w.cell? ⟨b,o+i*5+3,none⟩=some (.int .i64 a):=(hW.below.cell (p:=⟨b,_,none⟩) (aa x3)).trans x3
 have y4:w.cell? ⟨b,o+i*5+4,none⟩=some (.slice A3 ks.length c3):=(hW.below.cell (p:=⟨b,_,none⟩) (aa x4)).trans x4
 have lb:=aa y0
 have r0:w.cell? ⟨R,0,none⟩=some (.slice (some ⟨b,o,none⟩) n cc):=h.rd.cell 0
 have lR:=h.rd.lt; have lO:=h.obl.lt
 have hii:(i:Int)<(n:Int):=by omega
 have hi0:(0:Int)≤(i:Int):=by omega
 obtain ⟨T,hTT⟩:∃ T:ByteArray,T=⟨t.toArray⟩:=⟨_,rfl⟩
 have hTd:T.data.toList=t:=by rw [hTT]
 have HTT:=Lib.hid hTT
 rw [← hTT] at y1
 have hb0:Below w.heap.size w (w.alloc (.cells #[.int .u8 (15:Nat),.string T,.int .i64 nn,.int .i64 a,.slice A3 ks.length c3] 43)):=(Below.refl _ _).alloc (Nat.le_refl _) _
 have HBX:Hid (Blk (w.alloc (.cells #[.int .u8 (15:Nat),.string T,.int .i64 nn,.int .i64 a,.slice A3 ks.length c3] 43)) w.heap.size 43 #[.int .u8 (15:Nat),.string T,.int .i64 nn,.int .i64 a,.slice A3 ks.length c3]):=Lib.hid (Blk.new _ _ _)
 have HFA:Hid (FrY R OB B w (w.alloc (.cells #[.int .u8 (15:Nat),.string T,.int .i64 nn,.int .i64 a,.slice A3 ks.length c3] 43))):=Lib.hid (.of hb0)
 have HSA:=Lib.hid (h.below hb0)
 have HWA:=Lib.hid (hW.next HFA.out)
 have hsz:s.vars+(1+sizeL ks)≤900000:=hv
 have hsz2:s.seen.length+(1+sizeL ks)≤900000:=hsl
 have HRO:Hid (w.heap.size≠R∧w.heap.size≠OB):=Lib.hid ⟨by omega,by omega⟩
 have HALL:=Lib.hid (fun (W:World) (s1:TS) (vs1:Value) (f:FrY R OB B (w.alloc (.cells #[.int .u8 (15:Nat),.string T,.int .i64 nn,.int .i64 a,.slice A3 ks.length c3] 43)) W) (hS:StT W R OB B n cc (some ⟨b,o,none⟩) mn s1 va vf vs1) h1 h2 h3 h4=>fB w0 n cc (some ⟨b,o,none⟩) l ks hk R OB B mn va vf vs1 s1 (i+1) c3 A3 W hat2 hin (HWA.out.next f) hS h1 h2 h3 h4)
 have HT:=Lib.hid hT; have HN:=Lib.hid hn; have HG:=Lib.hid hl; have HKN:=Lib.hid hk; have HAT:=Lib.hid hat2; have HTD:=Lib.hid hTd; have HIN:=Lib.hid hin; have HC3:=Lib.hid hc3
 have HNT:Hid (nodeT i (.mk 15 t nn pp ks) s=(if s.find t<0 then .error (some i,150) else callT i (i+1) ks (s.put i (s.find t)))):=Lib.hid (by rw [nodeT]; rfl)
 rw [HNT.out]
 obtain ⟨res,hres⟩:∃ res,res=(if s.find t<0 then .error (some i,150) else callT i (i+1) ks (s.put i (s.find t))):=⟨_,rfl⟩
 rw [← hres]
 have HRS:=Lib.hid hres
 clear hT hn hl hgi hk hat2 hTT hTd hin hc3 x0 x1 x2 x3 x4 hb0 h hW hres hv hsl
 go_enter Tryz.func164,Tryz.ntmps164
 go_upto_region 2 with fail
 clear y0 y1 y2 y3 y4 lb r0 lR
 generalize w.alloc (.cells #[.int .u8 (15:Nat),.string T,.int .i64 nn,.int .i64 a,.slice A3 ks.length c3] 43)=wa at *
 have HBF:=Lib.hid (fun W (f:FrY R OB B wa W)=>f.hi _ _ _ HBX.out HRO.out.1 HRO.out.2 ⟨by decide,by decide,by decide⟩)
 have q0:wa.cell? ⟨w.heap.size,0,none⟩=some (.int .u8 (15:Nat)):=HBX.out.cell 0
 have q1:wa.cell? ⟨w.heap.size,1,none⟩=some (.string T):=HBX.out.cell 1
 have q2:wa.cell? ⟨w.heap.size,2,none⟩=some (.int .i64 nn):=HBX.out.cell 2
 have q3:wa.cell? ⟨w.heap.size,3,none⟩=some (.int .i64 a):=HBX.out.cell 3
 have q4:wa.cell? ⟨w.heap.size,4,none⟩=some (.slice A3 ks.length c3):=HBX.out.cell 4
 have lq:=HBX.out.lt
 obtain ⟨tc,nc,pc,r,rfl⟩:=hco
 have HCL:=Lib.hid (F9 w0 n cc (some ⟨b,o,none⟩) l HT.out HN.out tc nc pc r (HKN.out _ (by simp)) (fun y hy=>HKN.out y (List.mem_cons_of_mem _ hy)) R OB B mn va vf vs s i c3 A3 _ wa HG.out rfl HC3.out HAT.out HIN.out HWA.out HSA.out (by simp only [sizeL,sizeI] at hsz; omega) (by simp only [sizeL,sizeI] at hsz2; omega) hal hfl)
 unfold gq at HCL
 simp only [] at HCL
 rw [← HTT.out] at HCL
 rw [List.length_cons] at q4
 go_wp2_with fail
 refine HCL.out.mono ?_
 rintro e w9 ⟨f9,s9,vs9,v9,hs9,ha9,hfn9,hmo9,hv9,hl9,rfl,hr9⟩
 have HP9:Hid (fq R OB B n cc (some ⟨b,o,none⟩) l mn va vf s (1+sizeL r) wa (if s.find t<0 then .error (some i,150) else callT i (i+1) (.mk 16 tc nc pc [] :: r) (s.put i (s.find t))) (.returned v9) w9):=Lib.hid ⟨f9,s9,vs9,v9,hs9,ha9,hfn9,hmo9,hv9,hl9,rfl,hr9⟩
 clear f9 hs9 ha9 hfn9 hmo9 hv9 hl9 hr9
 go_wp2_with fail
 go_ret
 rw [HRS.out]
 exact HP9.out.more HFA.out (by simp only [sizeI,sizeL]; omega)
mutual
def CO:Item→Prop
 | .mk k _ _ _ ks=>(k=15→∃ tc nc pc r,ks=.mk 16 tc nc pc [] :: r)∧COL ks
def COL:List Item→Prop
 | []=>True
 | x :: r=>CO x∧COL r
end
theorem COL.mem:∀ {ks:List Item} (_:COL ks) (y:Item) (_:y∈ks),CO y
 | [],_,y,hy=>by simp at hy
 | x :: r,h,y,hy=>by
  rcases List.mem_cons.1 hy with rfl | hy
  ·exact h.1
  ·exact COL.mem h.2 y hy
theorem pG:∀ {ks:List Item} {y:Item} (_:y∈ks),sizeI y≤sizeL ks
 | x :: r,y,hy=>by
  simp only [sizeL]
  rcases List.mem_cons.1 hy with rfl | hy
  ·omega
  ·have:=pG hy; omega
theorem wP (w0:World) (n cc:Nat) (A:Option Addr) (l:List PV) (hT:bg w0 A l) (hn:n=l.length):∀ (N:Nat) (x:Item),sizeI x≤N→CO x→NC w0 n cc A l x
 | 0,x,h,_=>by have:=aW x; omega
 | N+1,.mk k t nn pp ks,h,hco=>by
  simp only [sizeI] at h
  have hk:∀ y∈ks,NC w0 n cc A l y:=fun y hy=>wP w0 n cc A l hT hn N y (by have:=pG hy; omega) (COL.mem hco.2 y hy)
  by_cases h4:k=4
  ·subst h4; exact CE w0 n cc A l hT hn t nn pp ks hk
  by_cases h5:k=5
  ·subst h5; exact BP w0 n cc A l hT hn t nn pp ks hk
  by_cases h6:k=6
  ·subst h6; exact G5 w0 n cc A l hT hn t nn pp ks hk
  by_cases h15:k=15
  ·subst h15; exact D7 w0 n cc A l hT hn t nn pp ks hk (hco.1 rfl)
  by_cases h7:k=7
  ·subst h7; exact Iq w0 n cc A l hT hn t nn pp ks hk
  by_cases h14:k=14
  ·subst h14; exact H7 w0 n cc A l hT hn t nn pp ks hk
  by_cases h18:k=18
  ·subst h18; exact FD w0 n cc A l hT hn t nn pp ks hk
  by_cases h8:k=8
  ·subst h8; exact Ij w0 n cc A l hT hn t nn pp ks hk
  by_cases h19:k=19
  ·subst h19; exact Fb w0 n cc A l hT hn t nn pp ks hk
  by_cases h16:k=16
  ·subst h16; exact Gl w0 n cc A l hT hn t nn pp ks hk
  exact Bj w0 n cc A l hT hn k t nn pp ks hk ⟨h4,h5,h6,h15,h7,h14,h18,h8,h19,h16⟩
end Go.Proofs.YtkkeocnnecegbaaGreatDoor
