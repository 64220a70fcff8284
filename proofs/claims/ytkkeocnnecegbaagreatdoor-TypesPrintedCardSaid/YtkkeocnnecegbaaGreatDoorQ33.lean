/- Joint text: TX, TQ, TY, PzC, PR, PrintedFacts. By an AI agent. -/
import Derived.Test.YtkkeocnnecegbaaGreatDoorQ32
import Derived.Test.YtkkeocnnecegbaaGreatDoorQ02
import Derived.Test.YtkkeocnnecegbaaGreatDoorQ16
import Derived.Test.YtkkeocnnecegbaaGreatDoorQ31
import Derived.Test.YtkkeocnnecegbaaGreatDoorRows
import Derived.ProofKit
import Derived.OpenShut
import Derived.JoinedCond
set_option linter.all false
set_option maxRecDepth 100000
set_option maxHeartbeats 64000000
namespace Go.Proofs.YtkkeocnnecegbaaGreatDoor
open Go.RowKit
def gz (C:Nat) (src:List UInt8) (e:Ending) (w':World):Prop:=match bD src with
 | .error (p,er)=>e=.returned (.tuple #[gm,.int .i64 p,.int .i64 er])
 | .ok x=>dS C x e w'
theorem Bq {tmps:Array Value} {W:World} {Z:Nat} {v3 v4:Value} {A0 A1 A2 A4:Option Addr} {n0 n1 n2 n4 d0 d1 d2 d4:Nat} {m:Int} (t2:tmps[2]? = some (.pointer (some ⟨Z,0,none⟩))) (t3:tmps[3]? = some v3) (t4:tmps[4]? = some v4) (k0:W.cell? ⟨Z,0,none⟩=some (.slice A0 n0 d0)) (k1:W.cell? ⟨Z,1,none⟩=some (.slice A1 n1 d1)) (k2:W.cell? ⟨Z,2,none⟩=some (.slice A2 n2 d2)) (k3:W.cell? ⟨Z,3,none⟩=some (.int .i64 m)) (k4:W.cell? ⟨Z,4,none⟩=some (.slice A4 n4 d4)) :
  (results Tryz.f34 tmps).run Tryz.prog W=.ok (.tuple #[.agg #[.slice A0 n0 d0,.slice A1 n1 d1,.slice A2 n2 d2,.int .i64 m,.slice A4 n4 d4],v3,v4]) W:=by
 simp [results,Tryz.results34,go_sem,t2,t3,t4,k0,k1,k2,k3,k4]
theorem gp.form {C:Nat} {w:World} {v:Value} {x:Item} {s:TS} (h:gp C w v x s):∃ A n c Aa ca Af cf OB,v=.agg #[.slice A n c,.slice Aa s.ak.length ca,.slice Af s.fns.length cf,.int .i64 s.eB,.slice (some ⟨OB,0,none⟩) n n]:=by
 obtain ⟨R,OB,B,n,c,A,l,va,vf,vs,h1,h2,h3,h4,h5,h6⟩:=h
 obtain ⟨Aa,ca,rfl⟩:=bJ h5.ak
 obtain ⟨Af,cf,rfl⟩:=bJ h5.fns
 exact⟨A,n,c,Aa,ca,Af,cf,OB,h1⟩
theorem ow (A:Option Addr) (c:Nat) (src:List UInt8) (w:World) (hn:src.length≤20000) (hl:eP w A src) (he:kK w) :
  Calls Tryz.prog 34 #[.slice A src.length c] w fun e w'=>gz w.heap.size src e w'∧Below w.heap.size w w':=by
 have hb0:Below w.heap.size w (w.alloc (.cells #[.slice none 0 0,.slice none 0 0,.slice none 0 0,.int .i64 0,.slice none 0 0] 59)):=(Below.refl _ _).alloc (Nat.le_refl _) _
 have HZ:Hid (Blk (w.alloc (.cells #[.slice none 0 0,.slice none 0 0,.slice none 0 0,.int .i64 0,.slice none 0 0] 59)) w.heap.size 59 #[.slice none 0 0,.slice none 0 0,.slice none 0 0,.int .i64 0,.slice none 0 0]):=Lib.hid (Blk.new _ _ _)
 have HE:=Lib.hid (he.below hb0); have HL:=Lib.hid (hl.below hb0); have HB0:=Lib.hid hb0
 clear he hl hb0
 obtain ⟨n,hnn⟩:∃ n,n=src.length:=⟨_,rfl⟩
 have HN:=Lib.hid hnn
 rw [← hnn]
 clear hnn
 go_enter Tryz.func34,Tryz.ntmps34
 go_upto_region 1 with fail
 obtain ⟨Z,hZ⟩:∃ Z,Z=w.heap.size:=⟨_,rfl⟩
 have HZW:=Lib.hid hZ
 rw [← hZ] at HZ ⊢
 clear hZ
 generalize w.alloc (.cells #[.slice none 0 0,.slice none 0 0,.slice none 0 0,.int .i64 0,.slice none 0 0] 59)=w1 at *
 cases hp:bD src with
 | error q =>
  obtain ⟨p,er⟩:=q
  have HC:=Lib.hid (by have h0:=uC A c src p er w1 (by omega) HL.out HE.out.p hp; rw [← HN.out] at h0; exact h0)
  have HPS:=Lib.hid hp
  have her:¬ er=0:=by rcases nT hp with h | h | h | h <;> omega
  clear hp
  go_wp2_with fail
  refine HC.out.mono ?_
  rintro e w2 ⟨rfl,hb2⟩
  have hb3:Below w2.heap.size w2 (w2.alloc (.cells #[.slice none 0 0] 24)):=(Below.refl _ _).alloc (Nat.le_refl _) _
  have HZ2:=Lib.hid ((HZ.out.below hb2).below hb3)
  have HB2:Hid (Below w.heap.size w (w2.alloc (.cells #[.slice none 0 0] 24))):=Lib.hid (ag (ag HB0.out hb2) hb3)
  clear HC hb2 hb3
  go_upto_region 2 with fail
  generalize w2.alloc (.cells #[.slice none 0 0] 24)=w3 at *
  have z0:w3.cell? ⟨Z,0,none⟩=some (.slice none 0 0):=HZ2.out.cell 0
  have z1:w3.cell? ⟨Z,1,none⟩=some (.slice none 0 0):=HZ2.out.cell 1
  have z2:w3.cell? ⟨Z,2,none⟩=some (.slice none 0 0):=HZ2.out.cell 2
  have z3:w3.cell? ⟨Z,3,none⟩=some (.int .i64 0):=HZ2.out.cell 3
  have z4:w3.cell? ⟨Z,4,none⟩=some (.slice none 0 0):=HZ2.out.cell 4
  have y0:=HZ2.out.free 0; have y1:=HZ2.out.free 1; have y2:=HZ2.out.free 2; have y3:=HZ2.out.free 3; have y4:=HZ2.out.free 4
  have lZ:=HZ2.out.lt
  go_wp2_with fail
  have H5:=nH HZ2.out (.slice none 0 0) (.slice none 0 0) (.slice none 0 0) (.int .i64 0) (.slice none 0 0)
  refine bodyPost_ret (Bq (Z:=Z) rfl rfl rfl (H5.cell 0) (H5.cell 1) (H5.cell 2) (H5.cell 3) (H5.cell 4)) rfl ⟨?_,jU HB2.out (by have:=HZW.out; omega) _ _ _ _ _⟩
  unfold gz
  rw [HPS.out]
  rfl
 | ok x =>
  have HC:=Lib.hid (by have h0:=qZ A c src x w1 (by omega) HL.out HE.out.p hp; rw [← HN.out] at h0; exact h0)
  have HPS:=Lib.hid hp
  clear hp
  go_wp2_with fail
  refine HC.out.mono ?_
  rintro e w2 ⟨⟨A1,n1,c1,rfl,hpt⟩,hb2⟩
  have hb3:Below w2.heap.size w2 (w2.alloc (.cells #[.slice A1 n1 c1] 24)):=(Below.refl _ _).alloc (Nat.le_refl _) _
  have HX:Hid (Blk (w2.alloc (.cells #[.slice A1 n1 c1] 24)) w2.heap.size 24 #[.slice A1 n1 c1]):=Lib.hid (Blk.new _ _ _)
  have HZ2:=Lib.hid ((HZ.out.below hb2).below hb3)
  have HB2:Hid (Below w.heap.size w (w2.alloc (.cells #[.slice A1 n1 c1] 24))):=Lib.hid (ag (ag HB0.out hb2) hb3)
  have HE2:=Lib.hid ((HE.out.below hb2).below hb3)
  have HPT:=Lib.hid (hpt.below hb3)
  have hZ1:Z<w2.heap.size:=by have:=HZ.out.lt; have:=hb2.size; omega
  clear HC hb2 hb3 hpt
  go_upto_region 2 with fail
  obtain ⟨X,hX⟩:∃ X,X=w2.heap.size:=⟨_,rfl⟩
  rw [← hX] at HX hZ1 ⊢
  clear hX
  generalize w2.alloc (.cells #[.slice A1 n1 c1] 24)=w3 at *
  have x0:w3.cell? ⟨X,0,none⟩=some (.slice A1 n1 c1):=HX.out.cell 0
  have lX:=HX.out.lt
  go_wp2_with fail
  refine (zf A1 n1 c1 x (2*n+1) w3 HPT.out HE2.out (by have:=HN.out; omega)).mono ?_
  rintro e w4 ⟨hro,hb4⟩
  have HRO:=Lib.hid hro
  have HZ4:=Lib.hid (HZ2.out.below hb4)
  have HB4:Hid (Below w.heap.size w w4):=Lib.hid (ag HB2.out hb4)
  have hw34:w.heap.size≤w3.heap.size∧Z<w3.heap.size:=⟨HB2.out.size,by omega⟩
  have z0:w4.cell? ⟨Z,0,none⟩=some (.slice none 0 0):=HZ4.out.cell 0
  have z1:w4.cell? ⟨Z,1,none⟩=some (.slice none 0 0):=HZ4.out.cell 1
  have z2:w4.cell? ⟨Z,2,none⟩=some (.slice none 0 0):=HZ4.out.cell 2
  have z3:w4.cell? ⟨Z,3,none⟩=some (.int .i64 0):=HZ4.out.cell 3
  have z4:w4.cell? ⟨Z,4,none⟩=some (.slice none 0 0):=HZ4.out.cell 4
  have y0:=HZ4.out.free 0; have y1:=HZ4.out.free 1; have y2:=HZ4.out.free 2; have y3:=HZ4.out.free 3; have y4:=HZ4.out.free 4
  have lZ:=HZ4.out.lt
  unfold dS at hro
  cases hr:bu x with
  | error q =>
   obtain ⟨i,code⟩:=q
   rw [hr] at hro
   obtain ⟨a,rfl,hpl⟩:=hro
   have HR:=Lib.hid hr; have HPL:=Lib.hid hpl
   clear hr hpl HRO
   unfold gm
   go_wp2_with fail
   have H5:=nH HZ4.out (.slice none 0 0) (.slice none 0 0) (.slice none 0 0) (.int .i64 0) (.slice none 0 0)
   refine bodyPost_ret (Bq (Z:=Z) rfl rfl rfl (H5.cell 0) (H5.cell 1) (H5.cell 2) (H5.cell 3) (H5.cell 4)) rfl ⟨?_,jU HB4.out (by have:=HZW.out; omega) _ _ _ _ _⟩
   unfold gz
   rw [HPS.out]
   show dS _ x _ _
   unfold dS
   rw [HR.out]
   exact⟨a,rfl,HPL.out⟩
  | ok s =>
   rw [hr] at hro
   obtain ⟨v,rfl,hv⟩:=hro
   have HR:=Lib.hid hr
   obtain ⟨A2,n2,c2,Aa,ca,Af,cf,OB,hform⟩:=hv.form
   subst hform
   obtain ⟨na,hna⟩:∃ q,q=s.ak.length:=⟨_,rfl⟩
   obtain ⟨nf,hnf⟩:∃ q,q=s.fns.length:=⟨_,rfl⟩
   obtain ⟨mo,hmo⟩:∃ q,q=s.eB:=⟨_,rfl⟩
   rw [← hna,← hnf,← hmo] at hv ⊢
   have HV:=Lib.hid hv
   clear hr hv hna hnf hmo HRO
   go_wp2_with fail
   have H5:=nH HZ4.out (.slice A2 n2 c2) (.slice Aa na ca) (.slice Af nf cf) (.int .i64 mo) (.slice (some ⟨OB,0,none⟩) n2 n2)
   refine bodyPost_ret (Bq (Z:=Z) rfl rfl rfl (H5.cell 0) (H5.cell 1) (H5.cell 2) (H5.cell 3) (H5.cell 4)) rfl ⟨?_,jU HB4.out (by have:=HZW.out; omega) _ _ _ _ _⟩
   unfold gz
   rw [HPS.out]
   show dS _ x _ _
   unfold dS
   rw [HR.out]
   exact⟨_,rfl,(HV.out.AA hw34.2 _ _ _ _ _).less hw34.1⟩
end Go.Proofs.YtkkeocnnecegbaaGreatDoor
namespace Go.Proofs.YtkkeocnnecegbaaGreatDoor
def sQ:List UInt8:=[118,97,114,32,116,91,51,93,59,32,102,117,110,99,32,102,40,97,44,32,98,41,32,123,32,118,97,114,32,99,32,61,32,97,59,32,116,91,99,93,32,61,32,98,59,32,114,101,116,117,114,110,32,99,59,32,125,32,102,117,110,99,32,109,97,105,110,40,41,32,123,32,118,97,114,32,120,32,61,32,49,59,32,99,97,108,108,32,120,32,61,32,102,40,120,44,32,50,41,59,32,125]
def tX1:Item:=match bD sQ with | .ok x=>x | .error _=>.mk 0 [] 0 0 []
theorem G9:bD sQ=.ok tX1:=by kernel_rfl
def r9:List UInt8:=[102,117,110,99,32,109,97,105,110,40,41,32,123,32,118,97,114,32,120,32,61,32,49,59,32,105,102,32,120,32,123,32,118,97,114,32,121,32,61,32,120,59,32,125,32,112,114,105,110,116,32,121,59,32,125]
def tX2:Item:=match bD r9 with | .ok x=>x | .error _=>.mk 0 [] 0 0 []
theorem Hy:bD r9=.ok tX2:=by kernel_rfl
def q8:List UInt8:=[102,117,110,99,32,102,40,41,32,123,32,125]
def tX3:Item:=match bD q8 with | .ok x=>x | .error _=>.mk 0 [] 0 0 []
theorem Gd:bD q8=.ok tX3:=by kernel_rfl
def tR1:TS:=match bu tX1 with | .ok s=>s | .error _=>⟨[],[],[],[],0⟩
theorem Jy:bu tX1=.ok tR1:=by kernel_rfl
theorem Ag:tR1.ak=[([116],3)]:=by kernel_rfl
theorem CR:tR1.fns=[⟨[102],2,3,2⟩,⟨[109,97,105,110],0,1,13⟩]:=by kernel_rfl
theorem Jt:tR1.eB=1:=by kernel_rfl
theorem JV:bu tX2=.error (some 11,150):=by kernel_rfl
theorem KJ:((flat 0 tX2)[11]?).map (·.at')=some 51:=by kernel_rfl
theorem J9:bu tX3=.error (none,153):=by kernel_rfl
end Go.Proofs.YtkkeocnnecegbaaGreatDoor
namespace Go.Proofs.YtkkeocnnecegbaaGreatDoor
open Go.RowKit
theorem gp.rows {C:Nat} {w:World} {v:Value} {x:Item} {s:TS} (h:gp C w v x s) (ha:0<s.ak.length) (hf:0<s.fns.length):∃ A n c ga ca gf cf OB,v=.agg #[.slice A n c,.slice (some ⟨ga,0,none⟩) s.ak.length ca,.slice (some ⟨gf,0,none⟩) s.fns.length cf,.int .i64 s.eB,.slice (some ⟨OB,0,none⟩) n n]∧(∀ k,k<s.ak.length*2→w.cell? ⟨ga,k,none⟩=(bV (s.ak.map iC))[k]?)∧(∀ k,k<s.fns.length*4→w.cell? ⟨gf,k,none⟩=(bV (s.fns.map fnV))[k]?):=by
 obtain ⟨R,OB,B,n,c,A,l,va,vf,vs,h1,h2,h3,h4,h5,h6⟩:=h
 have o1:=h5.ak
 have o2:=h5.fns
 obtain ⟨ga,ca,rfl,_,_⟩:=o1.form ha
 obtain ⟨gf,cf,rfl,_,_⟩:=o2.form hf
 exact⟨A,n,c,ga,ca,gf,cf,OB,h1,fun k hk=>o1.cellAt k hk,fun k hk=>o2.cellAt k hk⟩
theorem nU {w:World} (he:kK w) (src:List UInt8) (m c:Nat) (hm:src.length=m) (hn:m≤20000) (cs:Array Value) (fr:Nat×Nat) (h:cs.toList=src.map (fun c=>Value.int .u8 c.toNat)) :
  Calls Tryz.prog 34 #[.slice (some ⟨w.heap.size,0,none⟩) m c] (w.alloc (.cells cs 5 fr)) fun e w'=>gz (w.alloc (.cells cs 5 fr)).heap.size src e w'∧Below w.heap.size w w':=by
 subst hm
 have hb:Below w.heap.size w (w.alloc (.cells cs 5 fr)):=(Below.refl _ _).alloc (Nat.le_refl _) _
 refine (ow (some ⟨w.heap.size,0,none⟩) c src _ hn (Gy _ _ _ _ h) (he.below hb)).mono ?_
 rintro e w' ⟨h1,h2⟩
 exact⟨h1,ag hb h2⟩
theorem BC {C:Nat} {src:List UInt8} {x:Item} {s:TS} {e:Ending} {w':World} (h:gz C src e w') (h1:bD src=.ok x) (h2:bu x=.ok s):∃ v,e=.returned (.tuple #[v,.int .i64 0,.int .i64 0])∧gp C w' v x s:=by
 unfold gz at h
 rw [h1] at h
 have h3:dS C x e w':=h
 unfold dS at h3
 rw [h2] at h3
 exact h3
theorem sD {C:Nat} {src:List UInt8} {x:Item} {i:Option Nat} {code:Int} {e:Ending} {w':World} (h:gz C src e w') (h1:bD src=.ok x) (h2:bu x=.error (i,code)):∃ a,e=.returned (.tuple #[gm,.int .i64 a,.int .i64 code])∧Dk x i a:=by
 unfold gz at h
 rw [h1] at h
 have h3:dS C x e w':=h
 unfold dS at h3
 rw [h2] at h3
 exact h3
theorem oz {P:Program} {o:Oper} {a:Act} {w w':World} {v:Value} {K:Act→World→Prop} {Q:Exit→Act→World→Prop} (h:(execOp a.eval o).run P w=.ok (.value v) w') (hk:K (a.put o.dst v) w'):Oper.wp P o a w K Q:=by
 unfold Oper.wp
 rw [h]
 exact hk
def nJ (l:List UInt8):Array Value:=(l.map (fun c=>Value.int .u8 c.toNat)).toArray
theorem Kr {C:Nat} {w:World} {v:Value} (h:gp C w v tX1 tR1):∃ A n c ga ca gf cf OB,v=.agg #[.slice A n c,.slice (some ⟨ga,0,none⟩) 1 ca,.slice (some ⟨gf,0,none⟩) 2 cf,.int .i64 1,.slice (some ⟨OB,0,none⟩) n n]∧w.cell? ⟨ga,1,none⟩=some (.int .i64 3)∧w.cell? ⟨gf,2,none⟩=some (.int .i64 3):=by
 have ha:tR1.ak.length=1:=by rw [Ag]; rfl
 have hf:tR1.fns.length=2:=by rw [CR]; rfl
 obtain ⟨A,n,c,ga,ca,gf,cf,OB,h1,ka,kf⟩:=h.rows (by omega) (by omega)
 rw [ha] at h1 ka
 rw [hf] at h1 kf
 rw [Jt] at h1
 refine⟨A,n,c,ga,ca,gf,cf,OB,h1,?_,?_⟩
 ·rw [ka 1 (by decide),Ag]; rfl
 ·rw [kf 2 (by decide),CR]; rfl
theorem kM {w:World} (he:kK w):Calls Tryz.prog 29 #[] w fun e w'=>e=.returned (.bool true)∧Below w.heap.size w w':=by
 have HE:=Lib.hid he
 clear he
 have kc:=fun (W:World) (C:Array Value) (n c:Nat)=>Lib.run_convert_bytes_const (P:=Tryz.prog) W 30 5 C n c Tryz.underlying30 Tryz.underlying5
 go_enter Tryz.func29,Tryz.ntmps29
 go_upto_region 1 with fail
 refine wp_region_lit (wpList_step (fun K hK=>?_))
 rw [if_pos (by rfl)]
 refine oz (v:=.slice (some ⟨w.heap.size,0,none⟩) 102 102) (w':=w.alloc (.cells (nJ sQ) 5)) (by kernel_rfl) ?_
 refine hK _ _ ?_
 clear hK K
 generalize hcs:nJ sQ=cs1
 have HCS:=Lib.hid hcs
 clear hcs
 go_wp2_with fail
 refine (nU HE.out sQ 102 102 (by decide) (by decide) cs1 _ (by rw [← HCS.out]; rfl)).mono ?_
 rintro e w1 ⟨ho,hb1⟩
 obtain ⟨v,rfl,hv⟩:=BC ho G9 Jy
 obtain ⟨A,n,c,ga,ca,gf,cf,OB,rfl,ka,kf⟩:=Kr hv
 have hb2:Below w1.heap.size w1 (w1.alloc (.cells #[.slice A n c,.slice (some ⟨ga,0,none⟩) 1 ca,.slice (some ⟨gf,0,none⟩) 2 cf,.int .i64 1,.slice (some ⟨OB,0,none⟩) n n] 59)):=(Below.refl _ _).alloc (Nat.le_refl _) _
 have HB2:=Lib.hid (ag hb1 hb2)
 have HX:Hid (Blk (w1.alloc (.cells #[.slice A n c,.slice (some ⟨ga,0,none⟩) 1 ca,.slice (some ⟨gf,0,none⟩) 2 cf,.int .i64 1,.slice (some ⟨OB,0,none⟩) n n] 59)) w1.heap.size 59 #[.slice A n c,.slice (some ⟨ga,0,none⟩) 1 ca,.slice (some ⟨gf,0,none⟩) 2 cf,.int .i64 1,.slice (some ⟨OB,0,none⟩) n n]):=Lib.hid (Blk.new _ _ _)
 have HE2:=Lib.hid (HE.out.below HB2.out)
 have HKA:=Lib.hid ((hb2.cell (p:=⟨ga,1,none⟩) (aa ka)).trans ka); have HKF:=Lib.hid ((hb2.cell (p:=⟨gf,2,none⟩) (aa kf)).trans kf)
 clear ho hb1 hv ka kf hb2 HCS
 go_upto_region 2 with fail
 obtain ⟨X,hX⟩:∃ X,X=w1.heap.size:=⟨_,rfl⟩
 rw [← hX] at HX ⊢
 clear hX
 generalize w1.alloc (.cells #[.slice A n c,.slice (some ⟨ga,0,none⟩) 1 ca,.slice (some ⟨gf,0,none⟩) 2 cf,.int .i64 1,.slice (some ⟨OB,0,none⟩) n n] 59)=w2 at *
 refine wp_region_lit (wpList_step (fun K hK=>?_))
 rw [if_pos (by rfl)]
 refine oz (v:=.slice (some ⟨w2.heap.size,0,none⟩) 55 55) (w':=w2.alloc (.cells (nJ r9) 5)) (by kernel_rfl) ?_
 refine hK _ _ ?_
 clear hK K
 generalize hcs:nJ r9=cs2
 have HCS:=Lib.hid hcs
 clear hcs
 go_wp2_with fail
 refine (nU HE2.out r9 55 55 (by decide) (by decide) cs2 _ (by rw [← HCS.out]; rfl)).mono ?_
 rintro e w3 ⟨ho,hb3⟩
 obtain ⟨a2,rfl,hpl⟩:=sD ho Hy JV
 have ha2:a2=51:=by
  obtain ⟨g,h1,h2⟩:=hpl
  have h3:=KJ
  rw [List.getElem?_map] at h1
  cases hq:(flat 0 tX2)[11]? with
  | none=>rw [hq] at h1; simp at h1
  | some q =>
   rw [hq] at h1 h3
   simp only [Option.map_some,Option.some.injEq] at h1 h3
   rw [← h2,← h1]
   show ((q.at':Nat):Int)=51
   rw [h3]
   rfl
 subst ha2
 have hb4:Below w3.heap.size w3 (w3.alloc (.cells #[.slice none 0 0,.slice none 0 0,.slice none 0 0,.int .i64 0,.slice none 0 0] 59)):=(Below.refl _ _).alloc (Nat.le_refl _) _
 have hb24:=ag hb3 hb4
 have HB4:=Lib.hid (ag HB2.out hb24)
 have HX4:=Lib.hid (HX.out.below hb24)
 have HE4:=Lib.hid (HE.out.below HB4.out)
 have HKA4:=Lib.hid ((hb24.cell (p:=⟨ga,1,none⟩) (aa HKA.out)).trans HKA.out); have HKF4:=Lib.hid ((hb24.cell (p:=⟨gf,2,none⟩) (aa HKF.out)).trans HKF.out)
 clear ho hb3 hpl hb4 hb24 HCS HX HE2 HKA HKF HB2
 unfold gm
 go_upto_region 3 with fail
 generalize w3.alloc (.cells #[.slice none 0 0,.slice none 0 0,.slice none 0 0,.int .i64 0,.slice none 0 0] 59)=w4 at *
 refine wp_region_lit (wpList_step (fun K hK=>?_))
 rw [if_pos (by rfl)]
 refine oz (v:=.slice (some ⟨w4.heap.size,0,none⟩) 12 12) (w':=w4.alloc (.cells (nJ q8) 5)) (by kernel_rfl) ?_
 refine hK _ _ ?_
 clear hK K
 generalize hcs:nJ q8=cs3
 have HCS:=Lib.hid hcs
 clear hcs
 go_wp2_with fail
 refine (nU HE4.out q8 12 12 (by decide) (by decide) cs3 _ (by rw [← HCS.out]; rfl)).mono ?_
 rintro e w5 ⟨ho,hb5⟩
 obtain ⟨a3,rfl,hpl⟩:=sD ho Gd J9
 have hb6:Below w5.heap.size w5 (w5.alloc (.cells #[.slice none 0 0,.slice none 0 0,.slice none 0 0,.int .i64 0,.slice none 0 0] 59)):=(Below.refl _ _).alloc (Nat.le_refl _) _
 have hb46:=ag hb5 hb6
 have HB6:=Lib.hid (ag HB4.out hb46)
 have HX6:=Lib.hid (HX4.out.below hb46)
 have HKA6:=(hb46.cell (p:=⟨ga,1,none⟩) (aa HKA4.out)).trans HKA4.out; have HKF6:=(hb46.cell (p:=⟨gf,2,none⟩) (aa HKF4.out)).trans HKF4.out
 clear ho hb5 hpl hb6 hb46 HCS HX4 HE4 HKA4 HKF4 HB4
 unfold gm
 go_upto_region 4 with fail
 generalize w5.alloc (.cells #[.slice none 0 0,.slice none 0 0,.slice none 0 0,.int .i64 0,.slice none 0 0] 59)=w6 at *
 have x1:w6.cell? ⟨X,1,none⟩=some (.slice (some ⟨ga,0,none⟩) 1 ca):=HX6.out.cell 1
 have x2:w6.cell? ⟨X,2,none⟩=some (.slice (some ⟨gf,0,none⟩) 2 cf):=HX6.out.cell 2
 have x3:w6.cell? ⟨X,3,none⟩=some (.int .i64 1):=HX6.out.cell 3
 have lX:=HX6.out.lt; have lga:=aa HKA6; have lgf:=aa HKF6
 go_wp2_with fail
 go_ret
 exact⟨rfl,HB6.out⟩
end Go.Proofs.YtkkeocnnecegbaaGreatDoor
namespace Go.Proofs.YtkkeocnnecegbaaGreatDoor
open Go.RowKit
theorem Kj {w:World} {A:Option Addr} {n c:Nat}:Blk (w.alloc (.cells #[.slice A n c] 24)) w.heap.size 24 #[.slice A n c]:=Blk.new w 24 _
theorem iL (w:World) (o:Obj):Below w.heap.size w (w.alloc o):=(Below.refl _ _).alloc (Nat.le_refl _) _
end Go.Proofs.YtkkeocnnecegbaaGreatDoor
namespace Go.Proofs.YtkkeocnnecegbaaGreatDoor
open Go.RowKit
theorem gp.all {C:Nat} {w:World} {v:Value} {x:Item} {s:TS} (h:gp C w v x s):∃ A n c Aa ca Af cf OB,v=.agg #[.slice A n c,.slice Aa s.ak.length ca,.slice Af s.fns.length cf,.int .i64 s.eB,.slice (some ⟨OB,0,none⟩) n n]∧s.of.length=n∧(∀ (i:Nat) v,s.of[i]? = some v→w.cell? ⟨OB,i,none⟩=some (.int .i64 v))∧(∀ (i:Nat) f,s.fns[i]? = some f→∃ gf,Af=some ⟨gf,0,none⟩∧w.cell? ⟨gf,i*4,none⟩=some (.string ⟨f.name.toArray⟩)∧w.cell? ⟨gf,i*4+1,none⟩=some (.int .i64 f.params)∧w.cell? ⟨gf,i*4+2,none⟩=some (.int .i64 f.vars)∧w.cell? ⟨gf,i*4+3,none⟩=some (.int .i64 f.root)):=by
 obtain ⟨R,OB,B,n,c,A,l,va,vf,vs,h1,h2,h3,h4,h5,h6⟩:=h
 obtain ⟨Aa,ca,rfl⟩:=bJ h5.ak
 obtain ⟨Af,cf,rfl⟩:=bJ h5.fns
 refine⟨A,n,c,Aa,ca,Af,cf,OB,h1,h5.ofn,fun i v hv=>?_,fun i f hf=>?_⟩
 ·rw [h5.obl.cell i]
  simp [hv]
 ·obtain ⟨g,cap,e,_,_,q0,q1,q2,q3,_⟩:=h5.AP i f hf
  injection e with e1 e2 e3
  exact⟨g,e1,q0,q1,q2,q3⟩
theorem yI (A:Option Addr) (c:Nat) (src:List UInt8) (p:Nat) (er:Int) (w:World) (hn:src.length≤1500) (hl:eP w A src) (he:kK w) (h:bD src=.error (p,er)) :
  Calls Tryz.prog 12 #[.slice A src.length c] w fun e w'=>e=.returned (.bool true)∧Below w.heap.size w w':=by
 have HC:=Lib.hid (uC A c src p er w (by omega) hl he.p h)
 have HE:=Lib.hid he
 have e3:(er != 0)=true:=by rcases nT h with rfl | rfl | rfl | rfl <;> rfl
 have hn2:¬ (1500:Int)<(src.length:Int):=by omega
 obtain ⟨n,hnn⟩:∃ n,n=src.length:=⟨_,rfl⟩
 rw [← hnn] at HC hn2 ⊢
 clear he hl h hn hnn
 go_enter Tryz.func12,Tryz.ntmps12
 go_wp2_with fail
 refine HC.out.mono ?_
 rintro e w1 ⟨rfl,hb1⟩
 have HB1:=Lib.hid (ag hb1 (iL w1 (.cells #[.slice none 0 0] 24)))
 clear hb1
 go_wp2_with fail
 refine (kM (HE.out.below HB1.out)).mono ?_
 rintro e w2 ⟨rfl,hb2⟩
 have HB2:=Lib.hid (ag HB1.out hb2)
 clear hb2
 go_wp2_with fail
 go_ret
 exact⟨rfl,HB2.out⟩
theorem yM (A:Option Addr) (n c:Nat) (w:World) (he:kK w) (h:1500<n) :
  Calls Tryz.prog 12 #[.slice A n c] w fun e w'=>e=.returned (.bool true)∧Below w.heap.size w w':=by
 have HE:=Lib.hid he
 have hn2:(1500:Int)<(n:Int):=by omega
 clear he h
 go_enter Tryz.func12,Tryz.ntmps12
 go_wp2_with fail
 refine (kM HE.out).mono ?_
 rintro e w2 ⟨rfl,hb2⟩
 have HB2:=Lib.hid hb2
 clear hb2
 go_wp2_with fail
 go_ret
 exact⟨rfl,HB2.out⟩
theorem yg (A:Option Addr) (c:Nat) (src:List UInt8) (x:Item) (w:World) (hn:src.length≤1500) (hl:eP w A src) (he:kK w) (h:bD src=.ok x) :
  Calls Tryz.prog 12 #[.slice A src.length c] w fun e w'=>e=.returned (.bool true)∧Below w.heap.size w w':=by
 obtain ⟨g1,g2,g3,g4,y,g5,g6⟩:=vI h
 have hres:bu y=bu x:=vR g6
 have hszx:sizeI x≤3100:=by have:=tZ g1.wp.1; omega
 have HC:=Lib.hid (qZ A c src x w (by omega) hl he.p h)
 have HSO:=Lib.hid (fun W (hb:Below w.heap.size w W)=>ow A c src W (by omega) (hl.below hb) (he.below hb))
 have HE:=Lib.hid he
 have HG5:=Lib.hid g5; have HRES:=Lib.hid hres; have HPS:=Lib.hid h
 have hn2:¬ (1500:Int)<(src.length:Int):=by omega
 obtain ⟨n,hnn⟩:∃ n,n=src.length:=⟨_,rfl⟩
 rw [← hnn] at HC HSO hn2 g4 hn ⊢
 clear he hl h hnn g1 g2 g3 g5 g6 hres
 go_enter Tryz.func12,Tryz.ntmps12
 go_wp2_with fail
 refine HC.out.mono ?_
 rintro e w1 ⟨⟨A1,n1,c1,rfl,hpt⟩,hb1⟩
 have hb2:Below w1.heap.size w1 (w1.alloc (.cells #[.slice A1 n1 c1] 24)):=iL _ _
 have HT2:=Lib.hid (hpt.below hb2)
 have HB2:=Lib.hid (ag hb1 hb2)
 have HE2:=Lib.hid (HE.out.below HB2.out)
 have HX:Hid (Blk (w1.alloc (.cells #[.slice A1 n1 c1] 24)) w1.heap.size 24 #[.slice A1 n1 c1]):=Lib.hid Kj
 clear hpt hb1 hb2 HC
 go_upto_region 4 with fail
 obtain ⟨X,hX⟩:∃ X,X=w1.heap.size:=⟨_,rfl⟩
 rw [← hX] at HX ⊢
 clear hX
 generalize w1.alloc (.cells #[.slice A1 n1 c1] 24)=w2 at *
 have x0:w2.cell? ⟨X,0,none⟩=some (.slice A1 n1 c1):=HX.out.cell 0
 have lX:=HX.out.lt
 go_wp2_with fail
 refine (Ey HT2.out HE2.out.p (by omega) c1).mono ?_
 rintro e w3 ⟨⟨Ad,cd,rfl,hby⟩,hb3⟩
 have HBY:=Lib.hid hby
 have HB3:=Lib.hid (ag HB2.out hb3)
 have HE3:=Lib.hid (HE.out.below HB3.out)
 clear hby hb3 x0 lX HX HE2 HT2
 obtain ⟨L,hL⟩:∃ L,L=dC x:=⟨_,rfl⟩
 rw [← hL] at HBY HG5 g4 ⊢
 clear hL
 obtain ⟨m,hm⟩:∃ m,m=L.length:=⟨_,rfl⟩
 have HM:=Lib.hid hm
 rw [← hm] at g4 ⊢
 clear hm
 go_wp2_with fail
 refine (HSO.out w3 HB3.out).mono ?_
 rintro e w4 ⟨hso1,hb4⟩
 have HB4:=Lib.hid (ag HB3.out hb4)
 have HE4:=Lib.hid (HE.out.below HB4.out)
 have HBY4:=Lib.hid (HBY.out.below hb4)
 clear hb4 HBY HE3
 have HS2:=Lib.hid (fun W (hb:Below w4.heap.size w4 W)=>by
  have h0:=ow Ad cd L W (by rw [← HM.out]; omega) (HBY4.out.below hb) (HE4.out.below hb)
  rw [← HM.out] at h0
  exact h0)
 clear HBY4 HE4
 cases hr:bu x with
 | error q =>
  obtain ⟨i,code⟩:=q
  obtain ⟨a1,rfl,_⟩:=sD hso1 HPS.out hr
  have HRY:Hid (bu y=.error (i,code)):=Lib.hid (HRES.out.trans hr)
  have hb5:Below w4.heap.size w4 (w4.alloc (.cells #[.slice none 0 0,.slice none 0 0,.slice none 0 0,.int .i64 0,.slice none 0 0] 59)):=iL _ _
  have HX5:Hid (Blk (w4.alloc (.cells #[.slice none 0 0,.slice none 0 0,.slice none 0 0,.int .i64 0,.slice none 0 0] 59)) w4.heap.size 59 #[.slice none 0 0,.slice none 0 0,.slice none 0 0,.int .i64 0,.slice none 0 0]):=Lib.hid (Blk.new _ _ _)
  have HB5:=Lib.hid (ag HB4.out hb5)
  have HC5:=Lib.hid (HS2.out _ hb5)
  clear hso1 hr hb5 HS2
  unfold gm
  go_upto_region 8 with fail
  obtain ⟨X1,hX1⟩:∃ X,X=w4.heap.size:=⟨_,rfl⟩
  rw [← hX1] at HX5 ⊢
  clear hX1
  generalize w4.alloc (.cells #[.slice none 0 0,.slice none 0 0,.slice none 0 0,.int .i64 0,.slice none 0 0] 59)=w5 at *
  go_wp2_with fail
  refine HC5.out.mono ?_
  rintro e w6 ⟨hso2,hb6⟩
  obtain ⟨a2,rfl,_⟩:=sD hso2 HG5.out HRY.out
  have hb7:Below w6.heap.size w6 (w6.alloc (.cells #[.slice none 0 0,.slice none 0 0,.slice none 0 0,.int .i64 0,.slice none 0 0] 59)):=iL _ _
  have HX7:=Lib.hid ((HX5.out.below hb6).below hb7)
  have HY7:Hid (Blk (w6.alloc (.cells #[.slice none 0 0,.slice none 0 0,.slice none 0 0,.int .i64 0,.slice none 0 0] 59)) w6.heap.size 59 #[.slice none 0 0,.slice none 0 0,.slice none 0 0,.int .i64 0,.slice none 0 0]):=Lib.hid (Blk.new _ _ _)
  have HB7:=Lib.hid (ag (ag HB5.out hb6) hb7)
  clear hso2 hb6 hb7 HC5 HX5
  unfold gm
  go_upto_region 9 with fail
  obtain ⟨Y1,hY1⟩:∃ X,X=w6.heap.size:=⟨_,rfl⟩
  rw [← hY1] at HY7 ⊢
  clear hY1
  generalize w6.alloc (.cells #[.slice none 0 0,.slice none 0 0,.slice none 0 0,.int .i64 0,.slice none 0 0] 59)=w7 at *
  have x1:w7.cell? ⟨X1,1,none⟩=some (.slice none 0 0):=HX7.out.cell 1
  have x2:w7.cell? ⟨X1,2,none⟩=some (.slice none 0 0):=HX7.out.cell 2
  have x3:w7.cell? ⟨X1,3,none⟩=some (.int .i64 0):=HX7.out.cell 3
  have x4:w7.cell? ⟨X1,4,none⟩=some (.slice none 0 0):=HX7.out.cell 4
  have y1:w7.cell? ⟨Y1,1,none⟩=some (.slice none 0 0):=HY7.out.cell 1
  have y2:w7.cell? ⟨Y1,2,none⟩=some (.slice none 0 0):=HY7.out.cell 2
  have y3:w7.cell? ⟨Y1,3,none⟩=some (.int .i64 0):=HY7.out.cell 3
  have y4:w7.cell? ⟨Y1,4,none⟩=some (.slice none 0 0):=HY7.out.cell 4
  have lX:=HX7.out.lt; have lY:=HY7.out.lt
  go_wp2_with fail
  go_loopg [14] 0 (fun gk v wr=>v=.int .i64 0∧wr=w7)
  case atStart=>exact⟨rfl,rfl⟩
  case round =>
   obtain ⟨rfl,rfl⟩:=hrel
   go_wp2_with fail
   go_loopg [15] 0 (fun gk v wr2=>v=.int .i64 0∧wr2=wr)
   case atStart=>exact⟨rfl,rfl⟩
   case round =>
    obtain ⟨rfl,rfl⟩:=hrel
    go_wp2_with fail
    refine (kM (HE.out.below HB7.out)).mono ?_
    rintro e w8 ⟨rfl,hb8⟩
    have HB8:=Lib.hid (ag HB7.out hb8)
    clear hb8
    go_wp2_with fail
    go_ret
    exact⟨rfl,HB8.out⟩
 | ok s =>
  obtain ⟨v1,rfl,hv1⟩:=BC hso1 HPS.out hr
  have HRY:Hid (bu y=.ok s):=Lib.hid (HRES.out.trans hr)
  obtain ⟨A3,n3,c3,Aa,ca,Af,cf,OB,rfl,hof1,_,_⟩:=hv1.all
  obtain ⟨na,hna⟩:∃ q,q=s.ak.length:=⟨_,rfl⟩
  obtain ⟨nf,hnf⟩:∃ q,q=s.fns.length:=⟨_,rfl⟩
  obtain ⟨mo,hmo⟩:∃ q,q=s.eB:=⟨_,rfl⟩
  have HNA:=Lib.hid hna; have HNF:=Lib.hid hnf; have HMO:=Lib.hid hmo; have HOF:=Lib.hid hof1
  have hnf64:nf≤64:=by have:=(qG hr).heads.fns; omega
  have hn3:n3≤3100:=by have:=(qG hr).len; omega
  rw [← hna,← hnf,← hmo] at hv1 ⊢
  have hb5:Below w4.heap.size w4 (w4.alloc (.cells #[.slice A3 n3 c3,.slice Aa na ca,.slice Af nf cf,.int .i64 mo,.slice (some ⟨OB,0,none⟩) n3 n3] 59)):=iL _ _
  have HX5:Hid (Blk (w4.alloc (.cells #[.slice A3 n3 c3,.slice Aa na ca,.slice Af nf cf,.int .i64 mo,.slice (some ⟨OB,0,none⟩) n3 n3] 59)) w4.heap.size 59 #[.slice A3 n3 c3,.slice Aa na ca,.slice Af nf cf,.int .i64 mo,.slice (some ⟨OB,0,none⟩) n3 n3]):=Lib.hid (Blk.new _ _ _)
  have HB5:=Lib.hid (ag HB4.out hb5)
  have HC5:=Lib.hid (HS2.out _ hb5)
  have HV5:=Lib.hid (hv1.below hb5)
  clear hso1 hr hb5 HS2 hv1 hna hnf hmo hof1
  go_upto_region 8 with fail
  obtain ⟨X1,hX1⟩:∃ X,X=w4.heap.size:=⟨_,rfl⟩
  rw [← hX1] at HX5 ⊢
  clear hX1
  generalize w4.alloc (.cells #[.slice A3 n3 c3,.slice Aa na ca,.slice Af nf cf,.int .i64 mo,.slice (some ⟨OB,0,none⟩) n3 n3] 59)=w5 at *
  go_wp2_with fail
  refine HC5.out.mono ?_
  rintro e w6 ⟨hso2,hb6⟩
  obtain ⟨v2,rfl,hv2⟩:=BC hso2 HG5.out HRY.out
  obtain ⟨A4,n4,c4,Ba,cb,Bf,ce,OC,rfl,hof2,_,_⟩:=hv2.all
  obtain rfl:n4=n3:=hof2.symm.trans HOF.out
  rw [← HNA.out,← HNF.out,← HMO.out] at hv2 ⊢
  have hb7:Below w6.heap.size w6 (w6.alloc (.cells #[.slice A4 n4 c4,.slice Ba na cb,.slice Bf nf ce,.int .i64 mo,.slice (some ⟨OC,0,none⟩) n4 n4] 59)):=iL _ _
  have HX7:=Lib.hid ((HX5.out.below hb6).below hb7)
  have HY7:Hid (Blk (w6.alloc (.cells #[.slice A4 n4 c4,.slice Ba na cb,.slice Bf nf ce,.int .i64 mo,.slice (some ⟨OC,0,none⟩) n4 n4] 59)) w6.heap.size 59 #[.slice A4 n4 c4,.slice Ba na cb,.slice Bf nf ce,.int .i64 mo,.slice (some ⟨OC,0,none⟩) n4 n4]):=Lib.hid (Blk.new _ _ _)
  have HB7:=Lib.hid (ag (ag HB5.out hb6) hb7)
  have HV7:=Lib.hid ((HV5.out.below hb6).below hb7); have HU7:=Lib.hid (hv2.below hb7)
  clear hso2 hb6 hb7 HC5 HX5 hv2 HV5 hof2
  go_upto_region 9 with fail
  obtain ⟨Y1,hY1⟩:∃ X,X=w6.heap.size:=⟨_,rfl⟩
  rw [← hY1] at HY7 ⊢
  clear hY1
  generalize w6.alloc (.cells #[.slice A4 n4 c4,.slice Ba na cb,.slice Bf nf ce,.int .i64 mo,.slice (some ⟨OC,0,none⟩) n4 n4] 59)=w7 at *
  have x1:w7.cell? ⟨X1,1,none⟩=some (.slice Aa na ca):=HX7.out.cell 1
  have x2:w7.cell? ⟨X1,2,none⟩=some (.slice Af nf cf):=HX7.out.cell 2
  have x3:w7.cell? ⟨X1,3,none⟩=some (.int .i64 mo):=HX7.out.cell 3
  have x4:w7.cell? ⟨X1,4,none⟩=some (.slice (some ⟨OB,0,none⟩) n4 n4):=HX7.out.cell 4
  have y1:w7.cell? ⟨Y1,1,none⟩=some (.slice Ba na cb):=HY7.out.cell 1
  have y2:w7.cell? ⟨Y1,2,none⟩=some (.slice Bf nf ce):=HY7.out.cell 2
  have y3:w7.cell? ⟨Y1,3,none⟩=some (.int .i64 mo):=HY7.out.cell 3
  have y4:w7.cell? ⟨Y1,4,none⟩=some (.slice (some ⟨OC,0,none⟩) n4 n4):=HY7.out.cell 4
  have lX:=HX7.out.lt; have lY:=HY7.out.lt
  go_wp2_with fail
  clear x1 x2 x3 x4 y1 y2 y3 y4 lX lY
  have HALL:=Lib.hid (fun W (hb:Below w7.heap.size w7 W) (i:Nat) u (hu:s.of[i]? = some u)=>by
   obtain ⟨_,_,_,_,_,_,_,OB',e1,_,q1,_⟩:=(HV7.out.below hb).all
   obtain ⟨_,_,_,_,_,_,_,OC',e2,_,q2,_⟩:=(HU7.out.below hb).all
   have h1:OB=OB':=by have h:=congrArg (fun v=>match v with | Value.agg a=>a[4]? | _=>none) e1; simp at h; exact h.1
   have h2:OC=OC':=by have h:=congrArg (fun v=>match v with | Value.agg a=>a[4]? | _=>none) e2; simp at h; exact h.1
   subst h1 h2
   exact (⟨q1 i u hu,q2 i u hu⟩:W.cell? ⟨OB,i,none⟩=some (.int .i64 u)∧W.cell? ⟨OC,i,none⟩=some (.int .i64 u)))
  have HFN:=Lib.hid (fun W (hb:Below w7.heap.size w7 W) (i:Nat) f (hf:s.fns[i]? = some f)=>by
   obtain ⟨_,_,_,_,_,Af',_,_,e1,_,_,q1⟩:=(HV7.out.below hb).all
   have h1:Af=Af':=by have h:=congrArg (fun v=>match v with | Value.agg a=>a[2]? | _=>none) e1; simp at h; exact h.1
   rw [← h1] at q1
   exact q1 i f hf)
  have HFM:=Lib.hid (fun W (hb:Below w7.heap.size w7 W) (i:Nat) f (hf:s.fns[i]? = some f)=>by
   obtain ⟨_,_,_,_,_,Af',_,_,e1,_,_,q1⟩:=(HU7.out.below hb).all
   have h1:Bf=Af':=by have h:=congrArg (fun v=>match v with | Value.agg a=>a[2]? | _=>none) e1; simp at h; exact h.1
   rw [← h1] at q1
   exact q1 i f hf)
  go_loopg [14] n4 (fun gk v wr=>∃ j:Nat,j≤n4∧n4 - j≤gk∧v=.int .i64 j∧Hid (Below w7.heap.size w7 wr))
  case atStart=>exact⟨0,Nat.zero_le _,Nat.le_refl _,rfl,Lib.hid (Below.refl _ _)⟩
  case round =>
   obtain ⟨j,hj,hgk,rfl,HBR⟩:=hrel
   have x4:wr.cell? ⟨X1,4,none⟩=some (.slice (some ⟨OB,0,none⟩) n4 n4):=(HX7.out.below HBR.out).cell 4
   have lX:=(HX7.out.below HBR.out).lt
   by_cases hlt:j<n4
   case pos =>
    have hji:(j:Int)<(n4:Int):=by omega
    have hj0:(0:Int)≤(j:Int):=by omega
    obtain ⟨u,hu⟩:∃ u,s.of[j]? = some u:=⟨_,List.getElem?_eq_getElem (by rw [HOF.out]; exact hlt)⟩
    obtain ⟨k1,k2⟩:=HALL.out wr HBR.out j u hu
    have l1:=aa k1; have l2:=aa k2
    have y4:wr.cell? ⟨Y1,4,none⟩=some (.slice (some ⟨OC,0,none⟩) n4 n4):=(HY7.out.below HBR.out).cell 4
    have lY:=(HY7.out.below HBR.out).lt
    have hne:decide (u≠u)=false:=by simp
    clear hu
    go_upto_region 14 with fail
    go_quiet (fail)
    have HB9:Hid (Below w7.heap.size w7 (wr.drewN nq)):=Lib.hid (ag HBR.out ⟨rfl,rfl,rfl,Nat.le_refl _,fun _ _=>rfl⟩)
    clear x4 y4 k1 k2 l1 l2 lX lY
    generalize wr.drewN nq=w9 at *
    go_wp2_with fail
    cases gk with
    | zero=>omega
    | succ gk =>
     go_roundg gk
     case measure=>omega
     case rel=>exact⟨j+1,by omega,by omega,by simp,HB9⟩
   case neg =>
    have HBR1:=HBR
    obtain ⟨go,hgo⟩:∃ q,q=gk:=⟨_,rfl⟩
    clear hgo
    go_wp2_with fail
    go_loopg [15] nf (fun gk v wr2=>∃ j2:Nat,j2≤nf∧nf - j2≤gk∧v=.int .i64 j2∧Hid (Below w7.heap.size w7 wr2))
    case atStart=>exact⟨0,Nat.zero_le _,Nat.le_refl _,rfl,HBR1⟩
    case round =>
     obtain ⟨j2,hj2,hgk2,rfl,HBR2⟩:=hrel
     have x2:wr.cell? ⟨X1,2,none⟩=some (.slice Af nf cf):=(HX7.out.below HBR2.out).cell 2
     have lX2:=(HX7.out.below HBR2.out).lt
     by_cases hlt2:j2<nf
     case pos =>
      have hji2:(j2:Int)<(nf:Int):=by omega
      have hj20:(0:Int)≤(j2:Int):=by omega
      obtain ⟨f,hf⟩:∃ f,s.fns[j2]? = some f:=⟨_,List.getElem?_eq_getElem (by rw [← HNF.out]; exact hlt2)⟩
      obtain ⟨gf,e1,k0,k1,k2,k3⟩:=HFN.out wr HBR2.out j2 f hf
      obtain ⟨gh,e2,m0,m1,m2,m3⟩:=HFM.out wr HBR2.out j2 f hf
      subst e1 e2
      have l1:=aa k0; have l2:=aa m0
      have y2:wr.cell? ⟨Y1,2,none⟩=some (.slice (some ⟨gh,0,none⟩) nf ce):=(HY7.out.below HBR2.out).cell 2
      have lY:=(HY7.out.below HBR2.out).lt
      obtain ⟨nm,hnm⟩:∃ nm:ByteArray,nm=⟨f.name.toArray⟩:=⟨_,rfl⟩
      rw [← hnm] at k0 m0
      clear hf hnm
      go_upto_region 19 with fail
      go_quiet (fail)
      have HB9:Hid (Below w7.heap.size w7 (wr.drewN nq)):=Lib.hid (ag HBR2.out ⟨rfl,rfl,rfl,Nat.le_refl _,fun _ _=>rfl⟩)
      clear x2 y2 k0 k1 k2 k3 m0 m1 m2 m3 l1 l2 lX2 lY
      generalize wr.drewN nq=w9 at *
      go_wp2_with fail
      cases gk with
      | zero=>omega
      | succ gk =>
       go_roundg gk
       case measure=>omega
       case rel=>exact⟨j2+1,by omega,by omega,by simp,HB9⟩
     case neg =>
      go_wp2_with fail
      refine (kM ((HE.out.below HB7.out).below HBR2.out)).mono ?_
      rintro e w8 ⟨rfl,hb8⟩
      have HB8:=Lib.hid (ag (ag HB7.out HBR2.out) hb8)
      clear hb8
      go_wp2_with fail
      go_ret
      exact⟨rfl,HB8.out⟩
theorem zw (A:Option Addr) (c:Nat) (src:List UInt8) (w:World) (hl:eP w A src) (he:kK w) :
  Calls Tryz.prog 12 #[.slice A src.length c] w fun e w'=>e=.returned (.bool true)∧Below w.heap.size w w':=by
 by_cases hn:src.length≤1500
 ·cases h:bD src with
  | error q=>exact yI A c src q.1 q.2 w hn hl he h
  | ok x=>exact yg A c src x w hn hl he h
 ·exact yM A _ c w he (by omega)
end Go.Proofs.YtkkeocnnecegbaaGreatDoor
namespace Go.Proofs.YtkkeocnnecegbaaGreatDoor.printed
open Go.ChangeShapes Go.WideShapes Go.ChangeAt Go.RowKit
theorem Ir {a b:Bool} (h1:a=true) (h2:b=true):(a && b)=true:=by rw [h1,h2]; rfl
theorem closed:joinedFacts Tryz.pinned.checked.prog 12 Tryz.f12 (OpenSpec.ofChange Rows.typesPrintedSpec).bare Rows.typesPrintedRow=true:=by
 unfold joinedFacts
 repeat' (with_reducible refine Ir ?_ ?_)
 all_goals (as_aux_lemma=>kernel_rfl)
end Go.Proofs.YtkkeocnnecegbaaGreatDoor.printed
