/- Joint text: TW. By an AI agent. -/
import Derived.Test.YtkkeocnnecegbaaGreatDoorQ27
import Derived.Test.YtkkeocnnecegbaaGreatDoorQ28
import Derived.Test.YtkkeocnnecegbaaGreatDoorQ29
import Derived.Test.YtkkeocnnecegbaaGreatDoorQ31
set_option linter.all false
set_option maxRecDepth 100000
set_option maxHeartbeats 64000000
namespace Go.Proofs.YtkkeocnnecegbaaGreatDoor
open Go.RowKit
structure kK (w:World):Prop where
 p:om w
 err:w.cell? ⟨0,0,none⟩=some (.iface 223 (.agg #[.pointer (some ⟨9,108,none⟩)]))
theorem kK.below {w w':World} (h:kK w) (hb:Below w.heap.size w w'):kK w' :=
 ⟨h.p.below hb,(hb.cell (p:=⟨0,0,none⟩) (aa h.err)).trans h.err⟩
theorem qX {w:World} {g t Z:Nat} {cs:Array Value} (h:Blk w g t cs) (hne:g≠Z) (c0 c1 c2 c3 c4:Value):Blk (((((w.setCell ⟨Z,0,none⟩ c0).setCell ⟨Z,1,none⟩ c1).setCell ⟨Z,2,none⟩ c2).setCell ⟨Z,3,none⟩ c3).setCell ⟨Z,4,none⟩ c4) g t cs :=
 ((((h.far hne 0 c0).far hne 1 c1).far hne 2 c2).far hne 3 c3).far hne 4 c4
theorem nH {w:World} {t Z:Nat} {a b c d e:Value} (h:Blk w Z t #[a,b,c,d,e]) (c0 c1 c2 c3 c4:Value):Blk (((((w.setCell ⟨Z,0,none⟩ c0).setCell ⟨Z,1,none⟩ c1).setCell ⟨Z,2,none⟩ c2).setCell ⟨Z,3,none⟩ c3).setCell ⟨Z,4,none⟩ c4) Z t #[c0,c1,c2,c3,c4] :=
 ((((h.put 0 c0).put 1 c1).put 2 c2).put 3 c3).put 4 c4
theorem jU {C:Nat} {w0 w:World} (h:Below C w0 w) {Z:Nat} (hC:C≤Z) (c0 c1 c2 c3 c4:Value):Below C w0 (((((w.setCell ⟨Z,0,none⟩ c0).setCell ⟨Z,1,none⟩ c1).setCell ⟨Z,2,none⟩ c2).setCell ⟨Z,3,none⟩ c3).setCell ⟨Z,4,none⟩ c4) :=
 ((((h.setCell (p:=⟨Z,0,none⟩) hC _).setCell (p:=⟨Z,1,none⟩) hC _).setCell (p:=⟨Z,2,none⟩) hC _).setCell (p:=⟨Z,3,none⟩) hC _).setCell (p:=⟨Z,4,none⟩) hC _
theorem vN {w:World} {g Z:Nat} (hne:g≠Z) (c0 c1 c2 c3 c4:Value):(((((w.setCell ⟨Z,0,none⟩ c0).setCell ⟨Z,1,none⟩ c1).setCell ⟨Z,2,none⟩ c2).setCell ⟨Z,3,none⟩ c3).setCell ⟨Z,4,none⟩ c4).heap[g]? = w.heap[g]?:=by
 rw [Below.heap_setCell _ _ _ _ hne,Below.heap_setCell _ _ _ _ hne,Below.heap_setCell _ _ _ _ hne,Below.heap_setCell _ _ _ _ hne,Below.heap_setCell _ _ _ _ hne]
def wM (B:Nat) (A:Option Addr) (l:List PV):Prop:=(∀ b o,A=some ⟨b,o,none⟩→B≤b)∧∀ x∈l,∀ q,x.2.ownBlock=some q→B≤q
theorem bg.keep {w w':World} {B:Nat} {A:Option Addr} {l:List PV} (h:bg w A l) (ha:wM B A l) (hs:∀ q,B≤q→w'.heap[q]? = w.heap[q]?):bg w' A l:=by
 rcases h with h | ⟨b,o,e,h⟩
 ·exact Or.inl h
 ·refine Or.inr ⟨b,o,e,fun i g hi=>?_⟩
  have hc:∀ k,w'.cell? ⟨b,k,none⟩=w.cell? ⟨b,k,none⟩:=fun k=>World.cell?_of_block (hs b (ha.1 b o e))
  obtain ⟨x0,x1,x2,x3,x4,A5,c5,e5,hc5,h5⟩:=h i g hi
  refine⟨(hc _).trans x0,(hc _).trans x1,(hc _).trans x2,(hc _).trans x3,(hc _).trans x4,A5,c5,e5,hc5,h5.imp id (fun ⟨b6,o6,e6,h6⟩=>⟨b6,o6,e6,fun j k hj=>?_⟩)⟩
  refine (World.cell?_of_block (hs b6 (ha.2 g (List.mem_of_getElem? hi) b6 ?_))).trans (h6 j k hj)
  rw [e5,e6]; rfl
theorem StT.far {w:World} {R OB B n c Z:Nat} {A:Option Addr} {mn:Int} {s:TS} {va vf vs:Value} (h:StT w R OB B n c A mn s va vf vs) (hR:R≠Z) (hO:OB≠Z) (hB:Z<B) (i:Nat) (u:Value):StT (w.setCell ⟨Z,i,none⟩ u) R OB B n c A mn s va vf vs :=
 ⟨h.rd.far hR i u,h.obl.far hO i u,h.ofn,bK h.ak hB i u,bK h.fns hB i u,bK h.seen hB i u,h.lt,by have:=h.top; simpa [World.setCell] using this⟩
theorem StT.AA {w:World} {R OB B n c Z:Nat} {A:Option Addr} {mn:Int} {s:TS} {va vf vs:Value} (h:StT w R OB B n c A mn s va vf vs) (hR:R≠Z) (hO:OB≠Z) (hB:Z<B) (c0 c1 c2 c3 c4:Value):StT (((((w.setCell ⟨Z,0,none⟩ c0).setCell ⟨Z,1,none⟩ c1).setCell ⟨Z,2,none⟩ c2).setCell ⟨Z,3,none⟩ c3).setCell ⟨Z,4,none⟩ c4) R OB B n c A mn s va vf vs :=
 ((((h.far hR hO hB 0 c0).far hR hO hB 1 c1).far hR hO hB 2 c2).far hR hO hB 3 c3).far hR hO hB 4 c4
def gm:Value:=.agg #[.slice none 0 0,.slice none 0 0,.slice none 0 0,.int .i64 0,.slice none 0 0]
def gp (C:Nat) (w:World) (v:Value) (x:Item) (s:TS):Prop :=
 ∃ R OB B n c A l va vf vs,v=.agg #[.slice A n c,va,vf,.int .i64 s.eB,.slice (some ⟨OB,0,none⟩) n n]∧n=l.length∧bg w A l∧gns l=(flat 0 x).map gn∧StT w R OB B n c A s.eB s va vf vs∧wM C A l∧C≤R∧C≤OB∧C≤B
theorem gp.below {C:Nat} {w w':World} {v:Value} {x:Item} {s:TS} (h:gp C w v x s) (hb:Below w.heap.size w w'):gp C w' v x s:=by
 obtain ⟨R,OB,B,n,c,A,l,va,vf,vs,h1,h2,h3,h4,h5,h6⟩:=h
 exact⟨R,OB,B,n,c,A,l,va,vf,vs,h1,h2,h3.below hb,h4,h5.below hb,h6⟩
theorem gp.less {C D:Nat} {w:World} {v:Value} {x:Item} {s:TS} (h:gp C w v x s) (hd:D≤C):gp D w v x s:=by
 obtain ⟨R,OB,B,n,c,A,l,va,vf,vs,h1,h2,h3,h4,h5,h6,h7,h8,h9⟩:=h
 exact⟨R,OB,B,n,c,A,l,va,vf,vs,h1,h2,h3,h4,h5,⟨fun b o e=>Nat.le_trans hd (h6.1 b o e),fun x hx q hq=>Nat.le_trans hd (h6.2 x hx q hq)⟩,by omega,by omega,by omega⟩
theorem gp.AA {C Z:Nat} {w:World} {v:Value} {x:Item} {s:TS} (h:gp C w v x s) (hZ:Z<C) (c0 c1 c2 c3 c4:Value):gp C (((((w.setCell ⟨Z,0,none⟩ c0).setCell ⟨Z,1,none⟩ c1).setCell ⟨Z,2,none⟩ c2).setCell ⟨Z,3,none⟩ c3).setCell ⟨Z,4,none⟩ c4) v x s:=by
 obtain ⟨R,OB,B,n,c,A,l,va,vf,vs,h1,h2,h3,h4,h5,h6,h7,h8,h9⟩:=h
 exact⟨R,OB,B,n,c,A,l,va,vf,vs,h1,h2,h3.keep h6 (fun q hq=>vN (by omega) _ _ _ _ _),h4,h5.AA (by omega) (by omega) (by omega) _ _ _ _ _,h6,h7,h8,h9⟩
def Dk (x:Item) (i:Option Nat) (a:Int):Prop:=match i with | none=>a=0 | some k=>∃ g,((flat 0 x).map gn)[k]? = some g∧g.at'=a
def dS (C:Nat) (x:Item) (e:Ending) (w':World):Prop:=match bu x with
 | .error (i,code)=>∃ a,e=.returned (.tuple #[gm,.int .i64 a,.int .i64 code])∧Dk x i a
 | .ok s=>∃ v,e=.returned (.tuple #[v,.int .i64 0,.int .i64 0])∧gp C w' v x s
theorem KA {α β γ δ ε ζ:Type} {H G:α→β→γ→δ→ε→ζ→Prop} {goal:Prop} (h1:(∀ a b c d e f,H a b c d e f→G a b c d e f)→goal) (h2:∀ a b c d e f,H a b c d e f→G a b c d e f):goal:=h1 h2
theorem rW {m:Nat}:∀ {l:List Item},j5 m l→∀ y∈l,(dD y).length≤m
 | [],_,y,hy=>by simp at hy
 | x :: r,h,y,hy=>by
  unfold j5 at h
  rcases List.mem_cons.1 hy with rfl | hy
  ·obtain ⟨k,t,n,p,ks⟩:=y
   have:=h.1
   unfold mD at this
   exact this.1
  ·exact rW h.2 y hy
theorem Ih {tmps:Array Value} {W:World} {Z:Nat} {v3 v4:Value} {A0 A1 A2 A4:Option Addr} {n0 n1 n2 n4 d0 d1 d2 d4:Nat} {m:Int} (t2:tmps[2]? = some (.pointer (some ⟨Z,0,none⟩))) (t3:tmps[3]? = some v3) (t4:tmps[4]? = some v4) (k0:W.cell? ⟨Z,0,none⟩=some (.slice A0 n0 d0)) (k1:W.cell? ⟨Z,1,none⟩=some (.slice A1 n1 d1)) (k2:W.cell? ⟨Z,2,none⟩=some (.slice A2 n2 d2)) (k3:W.cell? ⟨Z,3,none⟩=some (.int .i64 m)) (k4:W.cell? ⟨Z,4,none⟩=some (.slice A4 n4 d4)) :
  (results Tryz.f31 tmps).run Tryz.prog W=.ok (.tuple #[.agg #[.slice A0 n0 d0,.slice A1 n1 d1,.slice A2 n2 d2,.int .i64 m,.slice A4 n4 d4],v3,v4]) W:=by
 simp [results,Tryz.results31,go_sem,t2,t3,t4,k0,k1,k2,k3,k4]
theorem zf (A:Option Addr) (n c:Nat) (x:Item) (K:Nat) (w:World) (h:PT w A n x K) (he:kK w) (hK:K≤60000) :
  Calls Tryz.prog 31 #[.agg #[.slice A n c]] w fun e w'=>dS w.heap.size x e w'∧Below w.heap.size w w':=by
 have hb0:Below w.heap.size w ((w.alloc (.cells #[.slice A n c] 24)).alloc (.cells #[.slice none 0 0,.slice none 0 0,.slice none 0 0,.int .i64 0,.slice none 0 0] 59)):=((Below.refl _ _).alloc (Nat.le_refl _) _).alloc (by simp) _
 have HP:Hid (Blk ((w.alloc (.cells #[.slice A n c] 24)).alloc (.cells #[.slice none 0 0,.slice none 0 0,.slice none 0 0,.int .i64 0,.slice none 0 0] 59)) w.heap.size 24 #[.slice A n c]):=Lib.hid ((Blk.new w 24 _).alloc _)
 have HZ:Hid (Blk ((w.alloc (.cells #[.slice A n c] 24)).alloc (.cells #[.slice none 0 0,.slice none 0 0,.slice none 0 0,.int .i64 0,.slice none 0 0] 59)) (w.heap.size+1) 59 #[.slice none 0 0,.slice none 0 0,.slice none 0 0,.int .i64 0,.slice none 0 0]):=Lib.hid (dF _ _ _ _ (by simp))
 have HE:=Lib.hid (he.below hb0); have HT:=Lib.hid (h.below hb0); have HB0:=Lib.hid hb0
 have hn0:=h.pos; have hns:=h.small
 have HK60:=Lib.hid hK
 have HE0:=Lib.hid he
 clear h he hb0
 go_enter Tryz.func31,Tryz.ntmps31
 go_upto_region 1 with fail
 obtain ⟨P,hP⟩:∃ P,P=w.heap.size:=⟨_,rfl⟩
 have HPW:=Lib.hid hP
 rw [← hP] at HP HZ ⊢
 clear hP
 generalize (w.alloc (.cells #[.slice A n c] 24)).alloc (.cells #[.slice none 0 0,.slice none 0 0,.slice none 0 0,.int .i64 0,.slice none 0 0] 59)=w1 at *
 have k0:w1.cell? ⟨P,0,none⟩=some (.slice A n c):=HP.out.cell 0
 have lP:=HP.out.lt
 go_wp2_with fail
 refine (Cu HT.out HE.out.p hK c).mono ?_
 rintro e w2 ⟨rfl,hb2⟩
 have HP2:=Lib.hid (HP.out.below hb2); have HZ2:=Lib.hid (HZ.out.below hb2); have HE2:=Lib.hid (HE.out.below hb2); have HT2:=Lib.hid (HT.out.below hb2)
 have HB2:Hid (Below w.heap.size w w2):=Lib.hid (ag HB0.out hb2)
 clear k0 lP hb2 HP HZ HE HT HB0
 go_upto_region 3 with fail
 obtain ⟨l,hnl,hN,hG,hsz,hsh,hrx,hwt⟩:=HT2.out
 have hll:0<l.length:=by rw [← hnl]; exact hn0
 have hA:∃ b o,A=some ⟨b,o,none⟩:=by
  rcases hN with h0 | ⟨b,o,e,_⟩
  ·rw [h0] at hll; exact absurd hll (by simp)
  ·exact⟨b,o,e⟩
 obtain ⟨b,o,rfl⟩:=hA
 have HKK:Hid (∀ g∈l,g.1.kids.length≤1000000):=Lib.hid (fun g hg=>by have:=qP hG g hg; omega)
 have HX:Hid (WP x∧mD K x∧AtI (gns l) 0 x):=Lib.hid ⟨hsh.wp.1,xw hsh.wp.1 hwt,hsh.at0⟩
 have HNL:=Lib.hid hnl; have HG:=Lib.hid hG; have HSZ:=Lib.hid hsz; have HN2:=Lib.hid hN
 clear hN hG hsz hsh hrx hwt hnl hll
 have hSd:w2.drew.cell? ⟨P,0,none⟩=some (.slice (some ⟨b,o,none⟩) n c):=HP2.out.cell 0
 have lP:=HP2.out.lt
 have hn64:n≤1000000:=by omega
 apply KA (H:=fun A' c' Kb g R w9=>∃ l' w0,n=l'.length∧bg w0 A' l'∧gns l'=(flat 0 x).map gn∧TW w0 w9 R g w9.heap.size∧StT w9 R g w9.heap.size n c' A' 0 (eF x) (.slice none 0 0) (.slice none 0 0) (.slice none 0 0)∧Below w2.heap.size w2 w9∧Kb<w9.heap.size∧w2.heap.size≤w0.heap.size∧wM w2.heap.size A' l')
 ·intro KEY
  refine wp_region_held_drew (S:=fun W=>W.cell? ⟨P,0,none⟩=some (.slice (some ⟨b,o,none⟩) n c)) (by kernel_rfl) (hSd) (fun hS=>?_)
  refine aJ [(0,some 13,.agg #[.slice (some ⟨b,o,none⟩) n c]),(3,some 16,.pointer (some ⟨P,0,none⟩)),(4,some 17,.slice (some ⟨b,o,none⟩) n c),(5,some 18,.int .i64 n)] 7 (by kernel_rfl) (fun _ _ _ _ _ h=>h) (by kernel_rfl) (by kernel_rfl) hS ?_
  intro F1 hF1
  have f1_1:F1.tmps[1]? = some (.pointer (some ⟨P,0,none⟩)):=by rw [hF1]; kernel_rfl
  have f1_13:F1.tmps[13]? = some (.agg #[.slice (some ⟨b,o,none⟩) n c]):=by rw [hF1]; kernel_rfl
  have f1_16:F1.tmps[16]? = some (.pointer (some ⟨P,0,none⟩)):=by rw [hF1]; kernel_rfl
  have f1_17:F1.tmps[17]? = some (.slice (some ⟨b,o,none⟩) n c):=by rw [hF1]; kernel_rfl
  have f1_18:F1.tmps[18]? = some (.int .i64 n):=by rw [hF1]; kernel_rfl
  have HF1:=Lib.hid hF1
  clear hF1
  refine⟨?_,?_⟩
  ·refine ai.cons _ rfl (Or.inl ⟨by rfl,fun W hW=>by (obtain hW:=hW); go_simp⟩) ?_
   refine ai.cons _ rfl (Or.inl ⟨by rfl,fun W hW=>by (obtain hW:=hW); go_simp⟩) ?_
   refine ai.cons _ rfl (Or.inl ⟨by rfl,fun W hW=>by (obtain hW:=hW); go_simp⟩) ?_
   refine ai.cons _ rfl (Or.inl ⟨by rfl,fun W hW=>by (obtain hW:=hW); go_simp⟩) ?_
   exact ai.nil
  have hdr:Below w2.heap.size w2 w2.drew:=(Below.refl _ _).drew
  have HCL:=Lib.hid (fun W (hb:Below w2.heap.size w2 W)=>by have h0:=Er b o c l W (HN2.out.below hb) (by rw [← HNL.out]; exact hn0) (by rw [← HNL.out]; exact hn64) HKK.out; rw [← HNL.out] at h0; exact h0)
  have HSP:=Lib.hid (fun W (hb:Below w2.heap.size w2 W)=>(HP2.out.below hb).cell 0)
  refine Cm 1 2 (some 14) (some 15) rfl rfl (by kernel_rfl) (by kernel_rfl) (by kernel_rfl) (fun KK hK=>?_) (fun KK hK=>?_)
  ·go_simp
   refine (HCL.out _ hdr).mono ?_
   rintro e w4 ⟨A',c',l',rfl,hl',hG',hN4,hA4,hA5,hb4⟩
   have hb4':=ag hdr hb4
   have hS4:=HSP.out _ hb4'
   refine hK.out _ _ hS4 ?_
   clear hK
   clear f1_1 f1_13 f1_16 f1_17 f1_18
   have hW5:Below w4.heap.size w4 (w4.alloc (.cells #[.int .i64 (-1)] 3)):=(Below.refl _ _).alloc (Nat.le_refl _) _
   have hb5:=ag hb4' hW5
   have hS5:=HSP.out _ hb5
   refine bN 2 (some 15) rfl (by kernel_rfl) (by kernel_rfl) (fun KK hK=>?_)
   go_simp
   refine hK.out _ _ hS5 ?_
   clear hK
   obtain ⟨Kb,hKb⟩:∃ Kb,Kb=w4.heap.size:=⟨_,rfl⟩
   have hK5:(w4.alloc (.cells #[.int .i64 (-1)] 3)).cell? ⟨Kb,0,none⟩=some (.int .i64 (-1)):=by rw [hKb]; exact (Blk.new w4 3 #[.int .i64 (-1)]).cell 0
   rw [← hKb]
   have HN5:=hN4.below hW5
   have hG5:=hG'.trans HG.out
   have HNA:wM w2.heap.size A' l':=⟨hA4,hA5⟩
   clear hKb
   refine aJ [] 5 (by kernel_rfl) (fun _ _ _ _ _ h=>h) (by kernel_rfl) (by kernel_rfl) hS5 ?_
   intro F2 hF2
   have f2_14:F2.tmps[14]? = some (.agg #[.slice A' n c']):=by rw [hF2,HF1.out]; kernel_rfl
   have f2_15:F2.tmps[15]? = some (.slice (some ⟨Kb,0,none⟩) 1 1):=by rw [hF2,HF1.out]; kernel_rfl
   have f2_18:F2.tmps[18]? = some (.int .i64 n):=by rw [hF2,HF1.out]; kernel_rfl
   have HF2:=Lib.hid hF2
   clear hF2
   refine⟨ai.nil,?_⟩
   refine bN 6 (some 19) rfl (by kernel_rfl) (by kernel_rfl) (fun KK hK=>?_)
   go_simp
   refine (rH Kb n (w4.alloc (.cells #[.int .i64 (-1)] 3)) hK5 hn0 hn64).mono ?_
   rintro e w6 ⟨g,rfl,hg6,hB6,hb6⟩
   have hb7:=ag hb5 hb6
   have hS6:=HSP.out _ hb7
   refine hK.out _ _ hS6 ?_
   clear hK
   clear f2_14 f2_15 f2_18
   refine aJ [(7,some 20,.agg #[.slice A' n c',.slice none 0 0,.slice none 0 0,.int .i64 0,.slice (some ⟨g,0,none⟩) n n]),(8,some 21,.agg #[.slice A' n c',.slice none 0 0,.slice none 0 0,.int .i64 0,.slice (some ⟨g,0,none⟩) n n,.slice none 0 0,.int .i64 0])] 2 (by kernel_rfl) (fun _ _ _ _ _ h=>h) (by kernel_rfl) (by kernel_rfl) hS6 ?_
   intro F3 hF3
   have f3_14:F3.tmps[14]? = some (.agg #[.slice A' n c']):=by rw [hF3,HF2.out,HF1.out]; kernel_rfl
   have f3_19:F3.tmps[19]? = some (.slice (some ⟨g,0,none⟩) n n):=by rw [hF3,HF2.out,HF1.out]; kernel_rfl
   have f3_20:F3.tmps[20]? = some (.agg #[.slice A' n c',.slice none 0 0,.slice none 0 0,.int .i64 0,.slice (some ⟨g,0,none⟩) n n]):=by rw [hF3,HF2.out,HF1.out]; kernel_rfl
   have f3_21:F3.tmps[21]? = some (.agg #[.slice A' n c',.slice none 0 0,.slice none 0 0,.int .i64 0,.slice (some ⟨g,0,none⟩) n n,.slice none 0 0,.int .i64 0]):=by rw [hF3,HF2.out,HF1.out]; kernel_rfl
   have HF3:=Lib.hid hF3
   clear hF3
   refine⟨?_,?_⟩
   ·refine ai.cons _ rfl (Or.inl ⟨by rfl,fun W hW=>by (obtain hW:=hW); go_simp⟩) ?_
    refine ai.cons _ rfl (Or.inl ⟨by rfl,fun W hW=>by (obtain hW:=hW); go_simp⟩) ?_
    exact ai.nil
   have hW7:Below w6.heap.size w6 (w6.alloc (.cells #[.slice A' n c',.slice none 0 0,.slice none 0 0,.int .i64 0,.slice (some ⟨g,0,none⟩) n n,.slice none 0 0,.int .i64 0] 119)):=(Below.refl _ _).alloc (Nat.le_refl _) _
   have hS7:=HSP.out _ (ag hb7 hW7)
   refine bN 9 (some 22) rfl (by kernel_rfl) (by kernel_rfl) (fun KK hK=>?_)
   go_simp
   refine hK.out _ _ hS7 ?_
   clear hK
   clear f3_14 f3_19 f3_20 f3_21
   obtain ⟨R,hR⟩:∃ R,R=w6.heap.size:=⟨_,rfl⟩
   rw [← hR]
   have HR:=Lib.hid hR
   clear hR
   refine aJ [(10,some 5,.pointer (some ⟨R,0,none⟩))] 0 (by kernel_rfl) (fun _ _ _ _ _ h=>h) (by kernel_rfl) (by kernel_rfl) hS7 ?_
   intro F4 hF4
   have f4_22:F4.tmps[22]? = some (.pointer (some ⟨R,0,none⟩)):=by rw [hF4,HF3.out,HF2.out,HF1.out]; kernel_rfl
   have f4_5:F4.tmps[5]? = some (.pointer (some ⟨R,0,none⟩)):=by rw [hF4,HF3.out,HF2.out,HF1.out]; kernel_rfl
   have HF4:=Lib.hid hF4
   clear hF4
   refine⟨?_,?_⟩
   ·refine ai.cons _ rfl (Or.inl ⟨by rfl,fun W hW=>by (obtain hW:=hW); go_simp⟩) ?_
    exact ai.nil
   refine wpAnyH_done (by kernel_rfl) ?_ _
   clear f4_22 f4_5
   rw [HF4.out,HF3.out,HF2.out,HF1.out]
   simp only [putD,Act.put,List.setIfInBounds_toArray,List.set_cons_zero,List.set_cons_succ]
   clear HF1 HF2 HF3 HF4
   have HB9:=ag hb7 hW7
   have HR9:Blk (w6.alloc (.cells #[.slice A' n c',.slice none 0 0,.slice none 0 0,.int .i64 0,.slice (some ⟨g,0,none⟩) n n,.slice none 0 0,.int .i64 0] 119)) R 119 #[.slice A' n c',.slice none 0 0,.slice none 0 0,.int .i64 0,.slice (some ⟨g,0,none⟩) n n,.slice none 0 0,.int .i64 0]:=by rw [HR.out]; exact Blk.new _ _ _
   have HO9:Blk (w6.alloc (.cells #[.slice A' n c',.slice none 0 0,.slice none 0 0,.int .i64 0,.slice (some ⟨g,0,none⟩) n n,.slice none 0 0,.int .i64 0] 119)) g 3 ((List.replicate n (Value.int .i64 (-1))).toArray):=hB6.below hW7
   have hgl:=hB6.lt
   have hRR:=HR.out
   have hsz9:(w6.alloc (.cells #[.slice A' n c',.slice none 0 0,.slice none 0 0,.int .i64 0,.slice (some ⟨g,0,none⟩) n n,.slice none 0 0,.int .i64 0] 119)).heap.size=w6.heap.size+1:=by simp
   generalize w6.alloc (.cells #[.slice A' n c',.slice none 0 0,.slice none 0 0,.int .i64 0,.slice (some ⟨g,0,none⟩) n n,.slice none 0 0,.int .i64 0] 119)=w9 at *
   refine KEY A' c' Kb g R w9 ⟨l',(w4.alloc (.cells #[.int .i64 (-1)] 3)),hl'.symm,HN5,hG5,⟨(ag (Below.refl _ _) hb6).trans (hW7.mono hb6.size),?_,hg6,?_⟩,⟨HR9,?_,by simp only [eF,List.length_replicate]; exact (HNL.out.trans HSZ.out).symm,World.ownsRow_nil _ _ _ _,World.ownsRow_nil _ _ _ _,World.ownsRow_nil _ _ _ _,⟨by omega,by omega,by omega⟩,Nat.le_refl _⟩,HB9,?_,hb5.size,?_⟩
   ·have:=hb6.size; have:=HR.out; omega
   ·have:=hb6.size; omega
   ·show Blk w9 g 3 ((List.replicate (sizeI x) (-1:Int)).map (Value.int .i64)).toArray
    rw [List.map_replicate,← (HNL.out.trans HSZ.out)]
    exact HO9
   ·have:=aa hK5; have:=hb6.size; omega
   ·exact HNA
  ·go_simp
   have hW5:Below w2.drew.heap.size w2.drew (w2.drew.alloc (.cells #[.int .i64 (-1)] 3)):=(Below.refl _ _).alloc (Nat.le_refl _) _
   have hb4:=ag hdr hW5
   have hS4:=HSP.out _ hb4
   refine hK.out _ _ hS4 ?_
   clear hK
   clear f1_1 f1_13 f1_16 f1_17 f1_18
   obtain ⟨Kb,hKb⟩:∃ Kb,Kb=w2.heap.size:=⟨_,rfl⟩
   have hK4:(w2.drew.alloc (.cells #[.int .i64 (-1)] 3)).cell? ⟨Kb,0,none⟩=some (.int .i64 (-1)):=by rw [hKb]; exact (Blk.new w2.drew 3 #[.int .i64 (-1)]).cell 0
   rw [← hKb]
   clear hKb
   refine aJ [] 6 (by kernel_rfl) (fun _ _ _ _ _ h=>h) (by kernel_rfl) (by kernel_rfl) hS4 ?_
   intro F2 hF2
   have f2_13:F2.tmps[13]? = some (.agg #[.slice (some ⟨b,o,none⟩) n c]):=by rw [hF2,HF1.out]; kernel_rfl
   have HF2:=Lib.hid hF2
   clear hF2
   refine⟨ai.nil,?_⟩
   refine bN 1 (some 14) rfl (by kernel_rfl) (by kernel_rfl) (fun KK hK=>?_)
   go_simp
   refine (HCL.out _ hb4).mono ?_
   rintro e w5 ⟨A',c',l',rfl,hl',hG',HN5,hA4,hA5,hb45⟩
   have hb5:=ag hb4 hb45
   have hS5:=HSP.out _ hb5
   have hK5:w5.cell? ⟨Kb,0,none⟩=some (.int .i64 (-1)):=(hb45.cell (p:=⟨Kb,0,none⟩) (aa hK4)).trans hK4
   have hG5:=hG'.trans HG.out
   have HNA:wM w2.heap.size A' l':=⟨fun b o e=>Nat.le_trans hb4.size (hA4 b o e),fun y hy q hq=>Nat.le_trans hb4.size (hA5 y hy q hq)⟩
   refine hK.out _ _ hS5 ?_
   clear hK
   clear f2_13
   refine aJ [] 5 (by kernel_rfl) (fun _ _ _ _ _ h=>h) (by kernel_rfl) (by kernel_rfl) hS5 ?_
   intro F3 hF3
   have f3_14:F3.tmps[14]? = some (.agg #[.slice A' n c']):=by rw [hF3,HF2.out,HF1.out]; kernel_rfl
   have f3_15:F3.tmps[15]? = some (.slice (some ⟨Kb,0,none⟩) 1 1):=by rw [hF3,HF2.out,HF1.out]; kernel_rfl
   have f3_18:F3.tmps[18]? = some (.int .i64 n):=by rw [hF3,HF2.out,HF1.out]; kernel_rfl
   have HF3:=Lib.hid hF3
   clear hF3
   refine⟨ai.nil,?_⟩
   refine bN 6 (some 19) rfl (by kernel_rfl) (by kernel_rfl) (fun KK hK=>?_)
   go_simp
   refine (rH Kb n w5 hK5 hn0 hn64).mono ?_
   rintro e w6 ⟨g,rfl,hg6,hB6,hb6⟩
   have hb7:=ag hb5 hb6
   have hS6:=HSP.out _ hb7
   refine hK.out _ _ hS6 ?_
   clear hK
   clear f3_14 f3_15 f3_18
   refine aJ [(7,some 20,.agg #[.slice A' n c',.slice none 0 0,.slice none 0 0,.int .i64 0,.slice (some ⟨g,0,none⟩) n n]),(8,some 21,.agg #[.slice A' n c',.slice none 0 0,.slice none 0 0,.int .i64 0,.slice (some ⟨g,0,none⟩) n n,.slice none 0 0,.int .i64 0])] 2 (by kernel_rfl) (fun _ _ _ _ _ h=>h) (by kernel_rfl) (by kernel_rfl) hS6 ?_
   intro F4 hF4
   have f4_14:F4.tmps[14]? = some (.agg #[.slice A' n c']):=by rw [hF4,HF3.out,HF2.out,HF1.out]; kernel_rfl
   have f4_19:F4.tmps[19]? = some (.slice (some ⟨g,0,none⟩) n n):=by rw [hF4,HF3.out,HF2.out,HF1.out]; kernel_rfl
   have f4_20:F4.tmps[20]? = some (.agg #[.slice A' n c',.slice none 0 0,.slice none 0 0,.int .i64 0,.slice (some ⟨g,0,none⟩) n n]):=by rw [hF4,HF3.out,HF2.out,HF1.out]; kernel_rfl
   have f4_21:F4.tmps[21]? = some (.agg #[.slice A' n c',.slice none 0 0,.slice none 0 0,.int .i64 0,.slice (some ⟨g,0,none⟩) n n,.slice none 0 0,.int .i64 0]):=by rw [hF4,HF3.out,HF2.out,HF1.out]; kernel_rfl
   have HF4:=Lib.hid hF4
   clear hF4
   refine⟨?_,?_⟩
   ·refine ai.cons _ rfl (Or.inl ⟨by rfl,fun W hW=>by (obtain hW:=hW); go_simp⟩) ?_
    refine ai.cons _ rfl (Or.inl ⟨by rfl,fun W hW=>by (obtain hW:=hW); go_simp⟩) ?_
    exact ai.nil
   have hW7:Below w6.heap.size w6 (w6.alloc (.cells #[.slice A' n c',.slice none 0 0,.slice none 0 0,.int .i64 0,.slice (some ⟨g,0,none⟩) n n,.slice none 0 0,.int .i64 0] 119)):=(Below.refl _ _).alloc (Nat.le_refl _) _
   have hS7:=HSP.out _ (ag hb7 hW7)
   refine bN 9 (some 22) rfl (by kernel_rfl) (by kernel_rfl) (fun KK hK=>?_)
   go_simp
   refine hK.out _ _ hS7 ?_
   clear hK
   clear f4_14 f4_19 f4_20 f4_21
   obtain ⟨R,hR⟩:∃ R,R=w6.heap.size:=⟨_,rfl⟩
   rw [← hR]
   have HR:=Lib.hid hR
   clear hR
   refine aJ [(10,some 5,.pointer (some ⟨R,0,none⟩))] 0 (by kernel_rfl) (fun _ _ _ _ _ h=>h) (by kernel_rfl) (by kernel_rfl) hS7 ?_
   intro F5 hF5
   have f5_22:F5.tmps[22]? = some (.pointer (some ⟨R,0,none⟩)):=by rw [hF5,HF4.out,HF3.out,HF2.out,HF1.out]; kernel_rfl
   have f5_5:F5.tmps[5]? = some (.pointer (some ⟨R,0,none⟩)):=by rw [hF5,HF4.out,HF3.out,HF2.out,HF1.out]; kernel_rfl
   have HF5:=Lib.hid hF5
   clear hF5
   refine⟨?_,?_⟩
   ·refine ai.cons _ rfl (Or.inl ⟨by rfl,fun W hW=>by (obtain hW:=hW); go_simp⟩) ?_
    exact ai.nil
   refine wpAnyH_done (by kernel_rfl) ?_ _
   clear f5_22 f5_5
   rw [HF5.out,HF4.out,HF3.out,HF2.out,HF1.out]
   simp only [putD,Act.put,List.setIfInBounds_toArray,List.set_cons_zero,List.set_cons_succ]
   clear HF1 HF2 HF3 HF4 HF5
   have HB9:=ag hb7 hW7
   have HR9:Blk (w6.alloc (.cells #[.slice A' n c',.slice none 0 0,.slice none 0 0,.int .i64 0,.slice (some ⟨g,0,none⟩) n n,.slice none 0 0,.int .i64 0] 119)) R 119 #[.slice A' n c',.slice none 0 0,.slice none 0 0,.int .i64 0,.slice (some ⟨g,0,none⟩) n n,.slice none 0 0,.int .i64 0]:=by rw [HR.out]; exact Blk.new _ _ _
   have HO9:Blk (w6.alloc (.cells #[.slice A' n c',.slice none 0 0,.slice none 0 0,.int .i64 0,.slice (some ⟨g,0,none⟩) n n,.slice none 0 0,.int .i64 0] 119)) g 3 ((List.replicate n (Value.int .i64 (-1))).toArray):=hB6.below hW7
   have hgl:=hB6.lt
   have hRR:=HR.out
   have hsz9:(w6.alloc (.cells #[.slice A' n c',.slice none 0 0,.slice none 0 0,.int .i64 0,.slice (some ⟨g,0,none⟩) n n,.slice none 0 0,.int .i64 0] 119)).heap.size=w6.heap.size+1:=by simp
   generalize w6.alloc (.cells #[.slice A' n c',.slice none 0 0,.slice none 0 0,.int .i64 0,.slice (some ⟨g,0,none⟩) n n,.slice none 0 0,.int .i64 0] 119)=w9 at *
   refine KEY A' c' Kb g R w9 ⟨l',w5,hl'.symm,HN5,hG5,⟨(ag (Below.refl _ _) hb6).trans (hW7.mono hb6.size),?_,hg6,?_⟩,⟨HR9,?_,by simp only [eF,List.length_replicate]; exact (HNL.out.trans HSZ.out).symm,World.ownsRow_nil _ _ _ _,World.ownsRow_nil _ _ _ _,World.ownsRow_nil _ _ _ _,⟨by omega,by omega,by omega⟩,Nat.le_refl _⟩,HB9,?_,hb5.size,?_⟩
   ·have:=hb6.size; have:=HR.out; omega
   ·have:=hb6.size; omega
   ·show Blk w9 g 3 ((List.replicate (sizeI x) (-1:Int)).map (Value.int .i64)).toArray
    rw [List.map_replicate,← (HNL.out.trans HSZ.out)]
    exact HO9
   ·have:=aa hK5; have:=hb6.size; omega
   ·exact HNA
 rintro A' c' Kb g R w9 ⟨l',w0,hl',HN',hG',HTW,HS9,HB9,_,hw20,hna⟩
 have HNAA:=Lib.hid hna
 obtain ⟨hxp,hxm,_⟩:=HX.out
 obtain ⟨k,tx,nx,p,ks⟩:=x
 obtain ⟨rfl,rfl,rfl,hwd⟩:=hxp
 have hsx:sizeI (.mk 1 [] 0 p ks)=n:=(HNL.out.trans HSZ.out).symm
 have hks:sizeL ks≤800000:=by simp only [sizeI] at hsx; omega
 have htx:∀ y∈ks,(dD y).length≤900000:=fun y hy=>by have:=rW hxm.2 y hy; have:=HK60.out; omega
 have hat:AtI (gns l') 0 (.mk 1 [] 0 p ks):=by rw [hG']; exact oo _
 have HC:=Lib.hid (yT w0 n c' A' l' HN' hl' R g w9.heap.size p ks hwd hat hks htx w9 HTW HS9)
 have HL':=Lib.hid hl'; have HNN:=Lib.hid HN'; have HGG:=Lib.hid hG'; have HTW':=Lib.hid HTW
 have hB9:Below w.heap.size w w9:=ag HB2.out HB9
 have HZ9:=Lib.hid (HZ2.out.below HB9); have HE9:=Lib.hid (HE2.out.below HB9)
 have hgR:w.heap.size≤R∧w.heap.size≤g∧w.heap.size≤w9.heap.size∧P+1<w9.heap.size∧P+1≠R∧P+1≠g:=by
  have h1:=HTW.r; have h2:=HTW.o; have h3:=HTW.b; have h4:=HTW.below.size; have h5:=HB2.out.size; have h6:=HPW.out; have h7:=HZ2.out.lt
  omega
 have HGR:=Lib.hid hgR; have HBW:=Lib.hid hB9
 have hw2P:P+1<w2.heap.size:=HZ2.out.lt
 clear hna hw20 hl' HN' hG' HTW HS9 HB9 hxm hwd hsx hks htx hat hB9 hgR HKK HX HNL HG HSZ HN2 hSd lP
 go_wp2_with fail
 refine HC.out.mono ?_
 rintro e w10 ⟨hf10,s10,mn,va,vf,vs,v,hS10,rfl,hres,hmain⟩
 clear HC
 obtain ⟨g1,g2,g3,g4,g5,g6⟩:=HGR.out
 have hB10:Below w.heap.size w w10:=HBW.out.trans (hf10.below g1 g2 g3 g3)
 have HB10:=Lib.hid hB10
 have HE10:Hid (kK w10):=Lib.hid (HE0.out.below hB10)
 have HZ10:Hid (Blk w10 (P+1) 59 #[.slice none 0 0,.slice none 0 0,.slice none 0 0,.int .i64 0,.slice none 0 0]):=Lib.hid ((hf10.lo (P+1) g4 g4 g5 g6).trans HZ9.out)
 have hws:w.heap.size≤w10.heap.size:=hB10.size
 have hPw:w.heap.size≤P:=by have:=HPW.out; omega
 have HFR10:=Lib.hid hf10
 clear hf10 hB10 HE9 HZ9
 cases hr0:bu (.mk 1 [] 0 p ks) with
 | error q =>
  obtain ⟨i,code⟩:=q
  rw [hr0] at hres
  obtain ⟨F,a,rfl,hFR,hFg,hpl,hFB⟩:=hres
  have HPL:=Lib.hid hpl; have HFB:=Lib.hid hFB; have HR0:=Lib.hid hr0
  clear hpl hFB hr0 hS10 hmain
  have hT1:Blk ((w10.alloc (.cells #[.pointer none] 121)).alloc (.cells #[.int .i64 0] 31)) w10.heap.size 121 #[.pointer none]:=(Blk.new w10 121 _).alloc _
  have hT2:Blk ((w10.alloc (.cells #[.pointer none] 121)).alloc (.cells #[.int .i64 0] 31)) (w10.heap.size+1) 31 #[.int .i64 0]:=dF _ _ _ _ (by simp)
  have hba:Below w10.heap.size w10 ((w10.alloc (.cells #[.pointer none] 121)).alloc (.cells #[.int .i64 0] 31)):=((Below.refl _ _).alloc (Nat.le_refl _) _).alloc (by simp) _
  have HBA:=Lib.hid hba; have HT1:=Lib.hid hT1; have HT2':=Lib.hid hT2
  have hFl:F<w10.heap.size:=HFB.out.lt
  clear hba hT1 hT2
  go_upto_region 7 with fail
  obtain ⟨T1,hT1⟩:∃ T1,T1=w10.heap.size:=⟨_,rfl⟩
  rw [← hT1] at HT1 HT2' hFl hws ⊢
  have HT1E:=Lib.hid hT1
  clear hT1
  generalize (w10.alloc (.cells #[.pointer none] 121)).alloc (.cells #[.int .i64 0] 31)=wa at *
  go_wp2_with fail
  refine (JU ⟨F,0,none⟩ ⟨T1,0,none⟩ (.pointer none) wa (HE10.out.below HBA.out).err (HT1.out.cell 0) (HT1.out.free 0)).mono ?_
  rintro e w11 ⟨rfl,hw11⟩
  have hBa:Below w.heap.size w wa:=ag HB10.out HBA.out
  have hbq:Below wa.heap.size wa ((((wa.alloc (.cells #[.pointer (some ⟨T1,0,none⟩)] 123)).alloc (.cells #[.pointer (some ⟨9,123,none⟩),.pointer (some ⟨wa.heap.size,0,none⟩),.int .u64 150] 185)).alloc (.cells #[.pointer (some ⟨9,123,none⟩),.pointer (some ⟨wa.heap.size,0,none⟩),.int .u64 150] 185)).alloc (.cells #[.pointer (some ⟨F,0,none⟩)] 121)):=((((Below.refl _ _).alloc (Nat.le_refl _) _).alloc (by simp) _).alloc (by simp; omega) _).alloc (by simp; omega) _
  have hFT:F≠T1:=by omega
  have HB11:Hid (Below w.heap.size w w11):=Lib.hid (by rw [hw11]; exact (ag hBa hbq).setCell (p:=⟨T1,0,none⟩) hws _)
  have HF11:Hid (Blk w11 F 126 #[.int .i64 a,.iface 31 (.int .i64 code)]):=Lib.hid (by rw [hw11]; exact ((HFB.out.below HBA.out).below hbq).far hFT 0 _)
  have HT11:Hid (Blk w11 T1 121 #[.pointer (some ⟨F,0,none⟩)]):=Lib.hid (by rw [hw11]; exact (HT1.out.below hbq).put 0 _)
  have HU11:Hid (Blk w11 (T1+1) 31 #[.int .i64 0]):=Lib.hid (by rw [hw11]; exact (HT2'.out.below hbq).far (by omega) 0 _)
  have HZ11:Hid (Blk w11 (P+1) 59 #[.slice none 0 0,.slice none 0 0,.slice none 0 0,.int .i64 0,.slice none 0 0]):=Lib.hid (by rw [hw11]; exact ((HZ10.out.below HBA.out).below hbq).far (by have:=HT1E.out; have:=HZ10.out.lt; omega) 0 _)
  have HE11:=Lib.hid (HE0.out.below HB11.out)
  have hZT:P+1<T1:=by have:=HT1E.out; have:=HZ10.out.lt; omega
  clear hw11 hbq hBa HT1 HT2' HZ10 HE10 HB10 HFB
  go_wp2_with fail
  refine (He F ⟨T1+1,0,none⟩ code (.int .i64 0) w11 HE11.out.err (HF11.out.cell 1) (HU11.out.cell 0) (HU11.out.free 0)).mono ?_
  rintro e w12 ⟨rfl,hw12⟩
  have hbq:Below w11.heap.size w11 ((((w11.alloc (.cells #[.pointer (some ⟨T1+1,0,none⟩)] 124)).alloc (.cells #[.pointer (some ⟨9,124,none⟩),.pointer (some ⟨w11.heap.size,0,none⟩),.int .u64 150] 185)).alloc (.cells #[.pointer (some ⟨9,124,none⟩),.pointer (some ⟨w11.heap.size,0,none⟩),.int .u64 150] 185)).alloc (.cells #[.int .i64 code] 31)):=((((Below.refl _ _).alloc (Nat.le_refl _) _).alloc (by simp) _).alloc (by simp; omega) _).alloc (by simp; omega) _
  have HB12:Hid (Below w.heap.size w w12):=Lib.hid (by rw [hw12]; exact (ag HB11.out hbq).setCell (p:=⟨T1+1,0,none⟩) (by show w.heap.size≤T1+1; omega) _)
  have HF12:Hid (Blk w12 F 126 #[.int .i64 a,.iface 31 (.int .i64 code)]):=Lib.hid (by rw [hw12]; exact (HF11.out.below hbq).far (by omega) 0 _)
  have HT12:Hid (Blk w12 T1 121 #[.pointer (some ⟨F,0,none⟩)]):=Lib.hid (by rw [hw12]; exact (HT11.out.below hbq).far (by omega) 0 _)
  have HU12:Hid (Blk w12 (T1+1) 31 #[.int .i64 code]):=Lib.hid (by rw [hw12]; exact (HU11.out.below hbq).put 0 _)
  have HZ12:Hid (Blk w12 (P+1) 59 #[.slice none 0 0,.slice none 0 0,.slice none 0 0,.int .i64 0,.slice none 0 0]):=Lib.hid (by rw [hw12]; exact (HZ11.out.below hbq).far (by omega) 0 _)
  clear hw12 hbq HF11 HT11 HU11 HZ11 HE11 HB11
  have hFZ:F≠P+1:=fun e=>by
   have h1:w12.heap[F]? = some (.cells #[.int .i64 a,.iface 31 (.int .i64 code)] 126):=HF12.out
   have h2:w12.heap[P+1]? = some (.cells #[.slice none 0 0,.slice none 0 0,.slice none 0 0,.int .i64 0,.slice none 0 0] 59):=HZ12.out
   rw [e,h2] at h1
   injection h1 with h1
   injection h1 with _ h1
   exact absurd h1 (by decide)
  go_upto_region 8 with fail
  have hdr:Below w12.heap.size w12 w12.drew:=(Below.refl _ _).drew
  have HSP:=Lib.hid (fun W (hf:Blk W F 126 #[.int .i64 a,.iface 31 (.int .i64 code)]) (ht:Blk W T1 121 #[.pointer (some ⟨F,0,none⟩)]) (hu:Blk W (T1+1) 31 #[.int .i64 code])=>(⟨hf.cell 0,ht.cell 0,hu.cell 0⟩:W.cell? ⟨F,0,none⟩=some (.int .i64 a)∧W.cell? ⟨T1,0,none⟩=some (.pointer (some ⟨F,0,none⟩))∧W.cell? ⟨T1+1,0,none⟩=some (.int .i64 code)))
  have hSx:=HSP.out _ (HF12.out.below hdr) (HT12.out.below hdr) (HU12.out.below hdr)
  have lF:=HF12.out.lt; have lT:=HT12.out.lt; have lU:=HU12.out.lt; have lZ:=HZ12.out.lt
  refine wp_region_held_drew (S:=fun W=>W.cell? ⟨F,0,none⟩=some (.int .i64 a)∧W.cell? ⟨T1,0,none⟩=some (.pointer (some ⟨F,0,none⟩))∧W.cell? ⟨T1+1,0,none⟩=some (.int .i64 code)) (by kernel_rfl) (hSx) (fun hS=>?_)
  refine aJ [(0,some 33,gm),(1,some 34,.pointer (some ⟨F,0,none⟩)),(2,some 35,.pointer (some ⟨F,0,none⟩)),(3,some 36,.pointer (some ⟨F,0,none⟩)),(4,some 37,.int .i64 a),(5,some 38,.int .i64 code)] 3 (by kernel_rfl) (fun _ _ _ _ _ h=>h) (by kernel_rfl) (by kernel_rfl) hS ?_
  intro F1 hF1
  have f1_2:F1.tmps[2]? = some (.pointer (some ⟨P+1,0,none⟩)):=by rw [hF1]; kernel_rfl
  have f1_7:F1.tmps[7]? = some (.pointer (some ⟨T1,0,none⟩)):=by rw [hF1]; kernel_rfl
  have f1_8:F1.tmps[8]? = some (.pointer (some ⟨T1+1,0,none⟩)):=by rw [hF1]; kernel_rfl
  have f1_33:F1.tmps[33]? = some (gm):=by rw [hF1]; kernel_rfl
  have f1_34:F1.tmps[34]? = some (.pointer (some ⟨F,0,none⟩)):=by rw [hF1]; kernel_rfl
  have f1_35:F1.tmps[35]? = some (.pointer (some ⟨F,0,none⟩)):=by rw [hF1]; kernel_rfl
  have f1_36:F1.tmps[36]? = some (.pointer (some ⟨F,0,none⟩)):=by rw [hF1]; kernel_rfl
  have f1_37:F1.tmps[37]? = some (.int .i64 a):=by rw [hF1]; kernel_rfl
  have f1_38:F1.tmps[38]? = some (.int .i64 code):=by rw [hF1]; kernel_rfl
  have HF1:=Lib.hid hF1
  clear hF1
  refine⟨?_,?_⟩
  ·refine ai.cons _ rfl (Or.inl ⟨by rfl,fun W hW=>by (obtain ⟨hW1,hW2,hW3⟩:=hW); go_simp; rfl⟩) ?_
   refine ai.cons _ rfl (Or.inl ⟨by rfl,fun W hW=>by (obtain ⟨hW1,hW2,hW3⟩:=hW); go_simp⟩) ?_
   refine ai.cons _ rfl (Or.inl ⟨by rfl,fun W hW=>by (obtain ⟨hW1,hW2,hW3⟩:=hW); go_simp⟩) ?_
   refine ai.cons _ rfl (Or.inl ⟨by rfl,fun W hW=>by (obtain ⟨hW1,hW2,hW3⟩:=hW); go_simp⟩) ?_
   refine ai.cons _ rfl (Or.inl ⟨by rfl,fun W hW=>by (obtain ⟨hW1,hW2,hW3⟩:=hW); go_simp⟩) ?_
   refine ai.cons _ rfl (Or.inl ⟨by rfl,fun W hW=>by (obtain ⟨hW1,hW2,hW3⟩:=hW); go_simp⟩) ?_
   exact ai.nil
  have hz:=HZ12.out
  have z0:w12.cell? ⟨P+1,0,none⟩=some (.slice none 0 0):=hz.cell 0
  have z1:w12.cell? ⟨P+1,1,none⟩=some (.slice none 0 0):=hz.cell 1
  have z2:w12.cell? ⟨P+1,2,none⟩=some (.slice none 0 0):=hz.cell 2
  have z3:w12.cell? ⟨P+1,3,none⟩=some (.int .i64 0):=hz.cell 3
  have z4:w12.cell? ⟨P+1,4,none⟩=some (.slice none 0 0):=hz.cell 4
  have y0:=hz.free 0; have y1:=hz.free 1; have y2:=hz.free 2; have y3:=hz.free 3; have y4:=hz.free 4
  unfold gm at f1_33
  clear hz
  refine bN 6 none rfl (by kernel_rfl) (by kernel_rfl) (fun KK hK=>?_)
  go_simp
  clear z0 z1 z2 z3 z4 y0 y1 y2 y3 y4
  have hd5:∀ W:World,Below W.heap.size W W.drew:=fun W=>(Below.refl _ _).drew
  have hSy:=HSP.out ((((((w12.setCell ⟨P+1,0,none⟩ (.slice none 0 0)).setCell ⟨P+1,1,none⟩ (.slice none 0 0)).setCell ⟨P+1,2,none⟩ (.slice none 0 0)).setCell ⟨P+1,3,none⟩ (.int .i64 0)).setCell ⟨P+1,4,none⟩ (.slice none 0 0)).drew) ((qX HF12.out hFZ (.slice none 0 0) (.slice none 0 0) (.slice none 0 0) (.int .i64 0) (.slice none 0 0)).below (hd5 _)) ((qX HT12.out (by omega) (.slice none 0 0) (.slice none 0 0) (.slice none 0 0) (.int .i64 0) (.slice none 0 0)).below (hd5 _)) ((qX HU12.out (by omega) (.slice none 0 0) (.slice none 0 0) (.slice none 0 0) (.int .i64 0) (.slice none 0 0)).below (hd5 _))
  have HZ5:Hid (Blk ((((((w12.setCell ⟨P+1,0,none⟩ (.slice none 0 0)).setCell ⟨P+1,1,none⟩ (.slice none 0 0)).setCell ⟨P+1,2,none⟩ (.slice none 0 0)).setCell ⟨P+1,3,none⟩ (.int .i64 0)).setCell ⟨P+1,4,none⟩ (.slice none 0 0)).drew) (P+1) 59 #[.slice none 0 0,.slice none 0 0,.slice none 0 0,.int .i64 0,.slice none 0 0]):=Lib.hid ((nH HZ12.out (.slice none 0 0) (.slice none 0 0) (.slice none 0 0) (.int .i64 0) (.slice none 0 0)).below (hd5 _))
  have HB5:Hid (Below w.heap.size w ((((((w12.setCell ⟨P+1,0,none⟩ (.slice none 0 0)).setCell ⟨P+1,1,none⟩ (.slice none 0 0)).setCell ⟨P+1,2,none⟩ (.slice none 0 0)).setCell ⟨P+1,3,none⟩ (.int .i64 0)).setCell ⟨P+1,4,none⟩ (.slice none 0 0)).drew)):=Lib.hid ((jU HB12.out (by omega) (.slice none 0 0) (.slice none 0 0) (.slice none 0 0) (.int .i64 0) (.slice none 0 0)).drew)
  generalize ((((((w12.setCell ⟨P+1,0,none⟩ (.slice none 0 0)).setCell ⟨P+1,1,none⟩ (.slice none 0 0)).setCell ⟨P+1,2,none⟩ (.slice none 0 0)).setCell ⟨P+1,3,none⟩ (.int .i64 0)).setCell ⟨P+1,4,none⟩ (.slice none 0 0)).drew)=wz at *
  refine (hK.out undef _ hSy ?_:KK F1 wz)
  clear hK
  clear f1_2 f1_7 f1_8 f1_33 f1_34 f1_35 f1_36 f1_37 f1_38
  refine aJ [(7,some 3,.int .i64 a),(8,some 4,.int .i64 code)] 0 (by kernel_rfl) (fun _ _ _ _ _ h=>h) (by kernel_rfl) (by kernel_rfl) hSy ?_
  intro F2 hF2
  have f2_37:F2.tmps[37]? = some (.int .i64 a):=by rw [hF2,HF1.out]; kernel_rfl
  have f2_38:F2.tmps[38]? = some (.int .i64 code):=by rw [hF2,HF1.out]; kernel_rfl
  have f2_3:F2.tmps[3]? = some (.int .i64 a):=by rw [hF2,HF1.out]; kernel_rfl
  have f2_4:F2.tmps[4]? = some (.int .i64 code):=by rw [hF2,HF1.out]; kernel_rfl
  have HF2:=Lib.hid hF2
  clear hF2
  refine⟨?_,?_⟩
  ·refine ai.cons _ rfl (Or.inl ⟨by rfl,fun W hW=>by (obtain ⟨hW1,hW2,hW3⟩:=hW); go_simp⟩) ?_
   refine ai.cons _ rfl (Or.inl ⟨by rfl,fun W hW=>by (obtain ⟨hW1,hW2,hW3⟩:=hW); go_simp⟩) ?_
   exact ai.nil
  refine wpAnyH_done (by kernel_rfl) ?_ _
  clear f2_37 f2_38 f2_3 f2_4
  rw [HF2.out,HF1.out]
  simp only [putD,Act.put,List.setIfInBounds_toArray,List.set_cons_zero,List.set_cons_succ]
  clear HF1 HF2
  go_wp2_with fail
  refine bodyPost_ret (Ih (Z:=P+1) rfl rfl rfl (HZ5.out.cell 0) (HZ5.out.cell 1) (HZ5.out.cell 2) (HZ5.out.cell 3) (HZ5.out.cell 4)) rfl ⟨?_,HB5.out⟩
  unfold dS
  rw [HR0.out]
  refine⟨a,rfl,?_⟩
  have hpl:=HPL.out
  cases i with
  | none=>exact hpl
  | some k =>
   obtain ⟨gg,h1,h2⟩:=hpl
   exact⟨gg.1,by rw [← HGG.out]; exact jl h1,h2⟩
 | ok s =>
  rw [hr0] at hres
  obtain ⟨rfl,rfl⟩:=hres
  have hmn:=hmain s10 hr0
  have HMN:=Lib.hid hmn; have HR0:=Lib.hid hr0; have HS10:=Lib.hid hS10
  obtain ⟨Aa,ca,hva⟩:=bJ HS10.out.ak
  obtain ⟨Af,cf,hvf⟩:=bJ HS10.out.fns
  obtain ⟨na,hna⟩:∃ q,q=s10.ak.length:=⟨_,rfl⟩
  obtain ⟨nf,hnf⟩:∃ q,q=s10.fns.length:=⟨_,rfl⟩
  rw [← hna] at hva; rw [← hnf] at hvf
  subst hva hvf
  have hba:Below w10.heap.size w10 ((w10.alloc (.cells #[.pointer none] 121)).alloc (.cells #[.int .i64 0] 31)):=((Below.refl _ _).alloc (Nat.le_refl _) _).alloc (by simp) _
  have HBA:Hid (Below w.heap.size w ((w10.alloc (.cells #[.pointer none] 121)).alloc (.cells #[.int .i64 0] 31))):=Lib.hid (ag HB10.out hba)
  have HS11:=Lib.hid (HS10.out.below hba)
  have HZ11:=Lib.hid (HZ10.out.below hba)
  have HN11:Hid (bg ((w10.alloc (.cells #[.pointer none] 121)).alloc (.cells #[.int .i64 0] 31)) A' l'):=Lib.hid ((HNN.out.below (HTW'.out.next HFR10.out).below).below hba)
  have hA0:w0.heap.size≤w10.heap.size:=(HTW'.out.next HFR10.out).below.size
  clear hba hr0 hmn hS10 hmain hna hnf
  go_upto_region 7 with fail
  generalize (w10.alloc (.cells #[.pointer none] 121)).alloc (.cells #[.int .i64 0] 31)=wa at *
  go_wp2_with fail
  refine (J3 _ wa).mono ?_
  rintro e w11 ⟨rfl,rfl⟩
  have r0:w11.cell? ⟨R,0,none⟩=some (.slice A' n c'):=HS11.out.rd.cell 0
  have r1:w11.cell? ⟨R,1,none⟩=some (.slice Aa na ca):=HS11.out.rd.cell 1
  have r2:w11.cell? ⟨R,2,none⟩=some (.slice Af nf cf):=HS11.out.rd.cell 2
  have r3:w11.cell? ⟨R,3,none⟩=some (.int .i64 mn):=HS11.out.rd.cell 3
  have r4:w11.cell? ⟨R,4,none⟩=some (.slice (some ⟨g,0,none⟩) n n):=HS11.out.rd.cell 4
  have lR:=HS11.out.rd.lt
  have z0:w11.cell? ⟨P+1,0,none⟩=some (.slice none 0 0):=HZ11.out.cell 0
  have z1:w11.cell? ⟨P+1,1,none⟩=some (.slice none 0 0):=HZ11.out.cell 1
  have z2:w11.cell? ⟨P+1,2,none⟩=some (.slice none 0 0):=HZ11.out.cell 2
  have z3:w11.cell? ⟨P+1,3,none⟩=some (.int .i64 0):=HZ11.out.cell 3
  have z4:w11.cell? ⟨P+1,4,none⟩=some (.slice none 0 0):=HZ11.out.cell 4
  have y0:=HZ11.out.free 0; have y1:=HZ11.out.free 1; have y2:=HZ11.out.free 2; have y3:=HZ11.out.free 3; have y4:=HZ11.out.free 4
  have lZ:=HZ11.out.lt
  go_wp2_with fail
  clear r0 r1 r2 r3 r4 lR z0 z1 z2 z3 z4 y0 y1 y2 y3 y4 lZ
  have H5:=nH HZ11.out (.slice A' n c') (.slice Aa na ca) (.slice Af nf cf) (.int .i64 mn) (.slice (some ⟨g,0,none⟩) n n)
  refine bodyPost_ret (Ih (Z:=P+1) rfl rfl rfl (H5.cell 0) (H5.cell 1) (H5.cell 2) (H5.cell 3) (H5.cell 4)) rfl ⟨?_,jU HBA.out (by omega) _ _ _ _ _⟩
  unfold dS
  rw [HR0.out]
  have hmn:=HMN.out
  subst hmn
  exact⟨_,rfl,R,g,w9.heap.size,n,c',A',l',.slice Aa na ca,.slice Af nf cf,_,rfl,HL'.out,HN11.out.keep HNAA.out (fun q hq=>vN (by omega) _ _ _ _ _),HGG.out,HS11.out.AA g5.symm g6.symm g4 _ _ _ _ _,⟨fun b o e=>Nat.le_trans HB2.out.size (HNAA.out.1 b o e),fun y hy q hq=>Nat.le_trans HB2.out.size (HNAA.out.2 y hy q hq)⟩,g1,g2,g3⟩
end Go.Proofs.YtkkeocnnecegbaaGreatDoor
