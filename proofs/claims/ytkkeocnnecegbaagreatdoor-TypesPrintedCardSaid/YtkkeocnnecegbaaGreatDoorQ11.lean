/- Joint text: PwI, PwJ, PwK. By an AI agent. -/
import Derived.Test.YtkkeocnnecegbaaGreatDoorQ10
set_option linter.all false
set_option maxRecDepth 100000
set_option maxHeartbeats 64000000
namespace Go.Proofs.YtkkeocnnecegbaaGreatDoor
open Go.RowKit
theorem bin_low (f R d of:Nat) (ts:List Tok) (w:World) (h:RD w R ts d) (ho:of≤3)
  (ih:∀ g,g≤f→∀ W ts',RD W R ts' d→binS g (of+1) d ts'≠.error aI→Calls Tryz.prog 230 #[.pointer (some ⟨R,0,none⟩),.int .i64 ((of:Int)+1)] W (aX W R d (binS g (of+1) d ts')))
  (hne:binS (f+1) of d ts≠.error aI):Calls Tryz.prog 230 #[.pointer (some ⟨R,0,none⟩),.int .i64 of] w (aX w R d (binS (f+1) of d ts)):=by
 obtain ⟨t,r,rfl⟩:=h.fin.cons
 have hU:binS (f+1) of d (t :: r)=match binS f (of+1) d (t :: r) with
  | .error e=>.error e
  | .ok (x,ts1)=>loopS f of d t.at' x ts1:=by
  conv=>lhs; unfold binS
  rw [if_neg (by omega)]; rfl
 have H:=Lib.hid h; have HU:=Lib.hid hU; have IH:=Lib.hid ih; have HNE:=Lib.hid hne
 clear h hU ih hne
 have f3:=FL
 have ho3:¬ (3:Int)<(of:Int):=by omega
 have hRw:=H.out.lt.1
 go_enter Tryz.func230,Tryz.ntmps230
 go_wp2_with fail
 refine (dP R t r d _ H.out).mono ?_; rintro e w1 ⟨rfl,hb1⟩; unfold eY
 have HR1:=Lib.hid (H.out.below hb1 hRw)
 have HK1:=Lib.hid (au.of (R:=R) hb1)
 clear hb1
 go_wp2_with fail
 refine (IH.out f (Nat.le_refl _) w1 (t :: r) HR1.out ?_).mono ?_
 ·intro hc; apply HNE.out; rw [HU.out,hc]
 rintro e w2 ⟨hk2,ho2⟩
 have HK2:=Lib.hid (HK1.out.trans hk2 HK1.out.size)
 cases hW:binS f (of+1) d (t :: r) with
 | error q =>
  obtain ⟨p,er⟩:=q
  rw [hW] at ho2
  subst ho2
  refine⟨rfl,OutB.err ?_ HK2.out⟩
  rw [HU.out,hW]
 | ok q =>
  obtain ⟨x0,ts1⟩:=q
  rw [hW] at ho2
  obtain ⟨hr2,v,rfl,p0,rfl,hi2⟩:=ho2
  have HR2:=Lib.hid hr2
  have HI2:=Lib.hid (hi2.mono (fun j hj _=>by have:=HK1.out.size; show w.heap.size≤j; omega))
  have HU2:Hid (binS (f+1) of d (t :: r)=loopS f of d t.at' x0 ts1):=Lib.hid (by rw [HU.out,hW])
  clear hW hr2 hk2 hi2 HU
  go_wp2_with fail
  refine (xW R d of ts1 _ HR2.out).mono ?_; rintro e w3 ⟨rfl,hb3⟩
  have HR3:=Lib.hid (HR2.out.below hb3 HR2.out.lt.1)
  have HI3:=Lib.hid (HI2.out.keep (fun j _ hl=>hb3.block j hl))
  have HK3:=Lib.hid (HK2.out.below hb3 HK2.out.size)
  clear hb3 HR2 HI2 HK2
  go_wp2_with fail
  go_loopg [6,7] f (fun g px vn wr=>∃ (p:Nat) (x:Item) (ts':List Tok),px=.pointer (some ⟨p,0,none⟩)∧vn=.int .i64 (bQ of ts')∧Hid (RD wr R ts' d∧au w.heap.size R w wr∧g≤f)∧Hid (dx wr (fun j=>w.heap.size≤j) p x)∧Hid (loopS g of d t.at' x ts'=binS (f+1) of d (t :: r)))
  case atStart=>exact⟨p0,x0,ts1,rfl,rfl,Lib.hid ⟨HR3.out,HK3.out,Nat.le_refl _⟩,HI3,Lib.hid HU2.out.symm⟩
  case round =>
   obtain ⟨p,x,ts',rfl,rfl,HA,HX,HG⟩:=hrel
   cases gk with
   | zero =>
    exfalso
    have:=HG.out
    unfold loopS at this
    exact HNE.out this.symm
   | succ gk =>
    by_cases hm:bQ of ts'=0
    ·have hm0:¬ (0:Int)<(bQ of ts':Int):=by omega
     have HF:Hid (binS (f+1) of d (t :: r)=.ok (x,ts')):=Lib.hid (by
      rw [← HG.out]; unfold loopS; rw [if_pos hm])
     clear hm
     go_wp2_with fail
     go_ret
     exact OutB.ok HF.out HA.out.2.1 HA.out.1 ⟨p,rfl,HX.out⟩
    ·have hm0:(0:Int)<(bQ of ts':Int):=by omega
     obtain ⟨t',r',hts⟩:=HA.out.1.fin.cons
     have hk5:t'.kind≠5:=by
      have:=nD (of:=of) (ts:=ts') dV 1 hm
      rw [hts] at this; exact this
     have HTS:=Lib.hid hts
     have HG2:Hid ((match binS gk (of+1) d r' with
      | .error e=>.error e
      | .ok (y,ts1)=>loopS gk of d t.at' (.mk 21 [] (bQ of ts') t.at' [x,y]) ts1)=binS (f+1) of d (t :: r)):=Lib.hid (by
      rw [← HG.out]; conv=>rhs; unfold loopS
      rw [if_neg hm,hts]
      show (match binS gk (of+1) d r' with | .error e=>_ | .ok (y,ts1)=>_)=_
      rfl)
     have HK5:=Lib.hid hk5
     clear hts hm hk5
     generalize hMN:bQ of ts'=mn at *
     clear hMN
     go_wp2_with fail
     refine (kJ R t' r' d _ (by rw [← HTS.out]; exact HA.out.1) HK5.out).mono ?_; rintro e w4 ⟨rfl,hr4,hk4⟩; unfold eY
     have HR4:=Lib.hid (hr4.alloc (.cells #[.int .u8 (21:Nat),.string ⟨([]:List UInt8).toArray⟩,.int .i64 mn,.int .i64 t.at',.slice none 0 0,.slice none 0 0] 160))
     have HK4:=Lib.hid ((HA.out.2.1.trans hk4 HA.out.2.1.size))
     have hs4:w.heap.size≤w4.heap.size:=HK4.out.size
     have HX4:=Lib.hid ((HX.out.mono (G:=fun j=>w.heap.size≤j∧j<wr.heap.size) (fun j hj hl=>⟨hj,hl⟩)).keep (fun j hj hl=>hk4.block j hl (by omega)))
     have hsr:=hk4.size
     have HY4:=Lib.hid (Blk.new w4 160 #[.int .u8 (21:Nat),.string ⟨([]:List UInt8).toArray⟩,.int .i64 mn,.int .i64 t.at',.slice none 0 0,.slice none 0 0])
     have HK4a:=Lib.hid (HK4.out.alloc hs4 (.cells #[.int .u8 (21:Nat),.string ⟨([]:List UInt8).toArray⟩,.int .i64 mn,.int .i64 t.at',.slice none 0 0,.slice none 0 0] 160))
     have HX4a:=Lib.hid (HX4.out.alloc (.cells #[.int .u8 (21:Nat),.string ⟨([]:List UInt8).toArray⟩,.int .i64 mn,.int .i64 t.at',.slice none 0 0,.slice none 0 0] 160))
     clear hr4 hk4 HX4 HK4
     go_wp2_with fail
     refine (IH.out gk (by have:=HA.out.2.2; omega) _ r' HR4.out ?_).mono ?_
     ·intro hc; apply HNE.out; rw [← HG2.out,hc]
     rintro e w5 ⟨hk5,ho5⟩
     have hsz:(w4.alloc (.cells #[.int .u8 (21:Nat),.string ⟨([]:List UInt8).toArray⟩,.int .i64 mn,.int .i64 t.at',.slice none 0 0,.slice none 0 0] 160)).heap.size=w4.heap.size+1:=by simp
     have HK5':=Lib.hid (HK4a.out.trans hk5 HK4a.out.size)
     have hs5:w.heap.size≤w5.heap.size:=HK5'.out.size
     cases hW:binS gk (of+1) d r' with
     | error q =>
      obtain ⟨pp,er⟩:=q
      rw [hW] at ho5
      subst ho5
      refine⟨rfl,OutB.err ?_ HK5'.out⟩
      rw [← HG2.out,hW]
     | ok q =>
      obtain ⟨y,ts2⟩:=q
      rw [hW] at ho5
      obtain ⟨hr5,v,rfl,q,rfl,hi5⟩:=ho5
      have HG3:Hid (loopS gk of d t.at' (.mk 21 [] mn t.at' [x,y]) ts2=binS (f+1) of d (t :: r)):=Lib.hid (by rw [← HG2.out,hW])
      have hX5:=HY4.out.kept hk5 (by rw [hsz]; omega) (by omega)
      have hx5:=HX4a.out.keep (w':=w5) (fun j hj hl=>hk5.block j hl (by omega))
      have HS5:Hid (w4.heap.size+1≤w5.heap.size):=Lib.hid (by rw [← hsz]; exact hk5.size)
      have HX5:=Lib.hid (hX5.alloc (.cells #[.pointer (some ⟨p,0,none⟩),.pointer (some ⟨q,0,none⟩)] 93))
      have Hx5:=Lib.hid (hx5.alloc (.cells #[.pointer (some ⟨p,0,none⟩),.pointer (some ⟨q,0,none⟩)] 93))
      have Hy5:=Lib.hid ((hi5.mono (G:=fun j=>w4.heap.size<j) (fun j hj _=>by rw [hsz] at hj; omega)).alloc (.cells #[.pointer (some ⟨p,0,none⟩),.pointer (some ⟨q,0,none⟩)] 93))
      have HR5:=Lib.hid (hr5.alloc (.cells #[.pointer (some ⟨p,0,none⟩),.pointer (some ⟨q,0,none⟩)] 93))
      have HK5a:=Lib.hid (HK5'.out.alloc hs5 (.cells #[.pointer (some ⟨p,0,none⟩),.pointer (some ⟨q,0,none⟩)] 93))
      clear hr5 hk5 hi5 hW hX5 hx5 hsz HG2
      go_wp2_with fail
      refine (Ac w4.heap.size w.heap.size w5.heap.size 2 0 _ _ _ _ _ _ [] [p,q] _ HX5.out (World.ownsRow_nil _ _ _ _) (by simp [Value.ownBlock]) (by simp; omega) (Blk.new w5 93 _) rfl (by omega) (by omega)).mono ?_
      rintro e w6 ⟨rfl,v',g1,g2,g3,g4,g5,g6,g7,g8⟩
      have hsa:w5.heap.size<(w5.alloc (.cells #[.pointer (some ⟨p,0,none⟩),.pointer (some ⟨q,0,none⟩)] 93)).heap.size:=by simp
      have hS5:=HS5.out
      have far:∀ j,j<(w5.alloc (.cells #[.pointer (some ⟨p,0,none⟩),.pointer (some ⟨q,0,none⟩)] 93)).heap.size→j≠w4.heap.size→w6.heap[j]? = (w5.alloc (.cells #[.pointer (some ⟨p,0,none⟩),.pointer (some ⟨q,0,none⟩)] 93)).heap[j]?:=fun j h1 h2=>g8 j h1 h2 (by simp [Value.ownBlock])
      have HX6:Hid (dx w6 (fun j=>w.heap.size≤j) w4.heap.size (.mk 21 [] mn t.at' [x,y])):=Lib.hid (by
       refine⟨hs4,v',[p,q],g1,⟨_,g2⟩,fun k hk=>(g2.lt k hk).1,?_⟩
       unfold KidsAt
       refine⟨(Hx5.out.keep (fun j hj hl=>far j hl (by omega))).mono (fun j hj _=>hj.1),KidsAt.one ((Hy5.out.keep (fun j hj hl=>far j hl (by omega))).mono (fun j hj _=>by omega))⟩)
      have HR6:=Lib.hid (HR5.out.same (w':=w6) (fun k hk=>far k (by omega) (by omega)))
      have HK6:Hid (au w.heap.size R w w6):=Lib.hid (HK5a.out.trans ⟨g4.symm,g5.symm,g6.symm,g7,fun k hk _=>far k (by omega) (by omega)⟩ (Nat.le_refl _))
      clear g1 g2 g3 g4 g5 g6 g7 g8 far hsa HX5 Hx5 Hy5 HR5 HK5a HY4 HX4a HK4a HK5'
      go_wp2_with fail
      refine (xW R d of ts2 _ HR6.out).mono ?_; rintro e w7 ⟨rfl,hb7⟩
      have HR7:=Lib.hid (HR6.out.below hb7 HR6.out.lt.1)
      have HX7:=Lib.hid (HX6.out.keep (fun j _ hl=>hb7.block j hl))
      have HK7:=Lib.hid (HK6.out.below hb7 HK6.out.size)
      clear hb7 HR6 HX6 HK6
      go_wp2_with fail
      go_roundg gk
      case measure=>omega
      case rel=>exact⟨w4.heap.size,_,ts2,rfl,rfl,Lib.hid ⟨HR7.out,HK7.out,by have:=HA.out.2.2; omega⟩,HX7,HG3⟩
theorem FH (f R d of:Nat) (ts:List Tok) (w:World) (_h:RD w R ts d) (ho:3<of)
  (ih:unS f d ts≠.error aI→Calls Tryz.prog 239 #[.pointer (some ⟨R,0,none⟩)] w (aX w R d (unS f d ts)))
  (hne:binS (f+1) of d ts≠.error aI):Calls Tryz.prog 230 #[.pointer (some ⟨R,0,none⟩),.int .i64 of] w (aX w R d (binS (f+1) of d ts)):=by
 have hU:binS (f+1) of d ts=unS f d ts:=by
  conv=>lhs; unfold binS
  rw [if_pos ho]
 rw [hU] at hne ⊢
 have IH:=Lib.hid (ih hne)
 have ho3:(3:Int)<(of:Int):=by omega
 clear hU hne ih _h ho
 go_enter Tryz.func230,Tryz.ntmps230
 go_wp2_with fail
 refine IH.out.mono ?_
 rintro e w2 ⟨hk2,ho2⟩
 cases hW:unS f d ts with
 | error q =>
  obtain ⟨p,er⟩:=q
  rw [hW] at ho2
  subst ho2
  exact⟨rfl,OutB.err rfl hk2⟩
 | ok q =>
  obtain ⟨x,ts1⟩:=q
  rw [hW] at ho2
  obtain ⟨hr2,v,rfl,p0,rfl,hi2⟩:=ho2
  have HR2:=Lib.hid hr2
  have HI2:=Lib.hid hi2
  have HK2:=Lib.hid hk2
  have HW:=Lib.hid hW
  clear hW hr2 hk2 hi2
  go_wp2_with fail
  go_ret
  exact OutB.ok HW.out HK2.out HR2.out ⟨p0,rfl,HI2.out⟩
theorem wB:∀ (N R:Nat),
  (∀ f,f≤N→∀ d of ts w,RD w R ts d→d≤64→binS f of d ts≠.error aI→Calls Tryz.prog 230 #[.pointer (some ⟨R,0,none⟩),.int .i64 (of:Nat)] w (aX w R d (binS f of d ts))) ∧
  (∀ f,f≤N→∀ d ts w,RD w R ts d→d≤64→unS f d ts≠.error aI→Calls Tryz.prog 239 #[.pointer (some ⟨R,0,none⟩)] w (aX w R d (unS f d ts))) ∧
  (∀ f,f≤N→∀ d ts w,RD w R ts d→d≤64→cB f d ts≠.error aI→Calls Tryz.prog 246 #[.pointer (some ⟨R,0,none⟩)] w (aX w R d (cB f d ts)))
 | 0,R=>by
  refine⟨fun f hf d of ts w _ _ hne=>?_,fun f hf d ts w _ _ hne=>?_,fun f hf d ts w _ _ hne=>?_⟩
  ·obtain rfl:f=0:=by omega
   exact absurd (by unfold binS; rfl) hne
  ·obtain rfl:f=0:=by omega
   exact absurd (by unfold unS; rfl) hne
  ·obtain rfl:f=0:=by omega
   exact absurd (by unfold cB; rfl) hne
 | N+1,R=>by
  obtain ⟨hb,hu,hfa⟩:=wB N R
  refine⟨fun f hf d of ts w hr hd hne=>?_,fun f hf d ts w hr hd hne=>?_,fun f hf d ts w hr hd hne=>?_⟩
  ·cases f with
   | zero=>exact absurd (by unfold binS; rfl) hne
   | succ f =>
    by_cases ho:3<of
    ·exact FH f R d of ts w hr ho (fun h=>hu f (by omega) d ts w hr hd h) hne
    ·exact bin_low f R d of ts w hr (by omega) (fun g hg W ts' hW hn=>by
      have:=hb g (by omega) d (of+1) ts' W hW hd hn
      rw [show (((of+1:Nat)):Int)=(of:Int)+1 by simp] at this
      exact this) hne
  ·cases f with
   | zero=>exact absurd (by unfold unS; rfl) hne
   | succ f =>
    cases h1:isT [45] ts
    ·cases h2:isT [33] ts
     ·exact JZ f R d ts w hr hd h1 h2 (fun W hW hn=>hfa f (by omega) d ts W hW hd hn) hne
     ·exact IY f R d ts w hr hd h1 h2 (fun W ts' hW hd' hn=>hu f (by omega) (d+1) ts' W hW hd' hn) hne
    ·exact un_minus f R d ts w hr hd h1 (fun W ts' hW hd' hn=>hu f (by omega) (d+1) ts' W hW hd' hn) hne
  ·cases f with
   | zero=>exact absurd (by unfold cB; rfl) hne
   | succ f =>
    by_cases h3:aj ts=3
    ·exact IQ f R d ts w hr h3
    ·by_cases h1:aj ts=1
     ·cases h2:isT [91] ts.tail
      ·exact yZ f R d ts w hr h1 h2
      ·exact fac_name_yes f R d ts w hr h1 h2 hd (fun W ts' hW hd' hn=>hb f (by omega) (d+1) 1 ts' W hW hd' hn) hne
     ·exact Jd f R d ts w hr h3 h1 hd (fun W ts' hW hd' hn=>hb f (by omega) (d+1) 1 ts' W hW hd' hn) hne
theorem nL (f R d:Nat) (ts:List Tok) (w:World) (hr:RD w R ts d) (hd:d≤64) (hne:binS f 1 d ts≠.error aI):Calls Tryz.prog 210 #[.pointer (some ⟨R,0,none⟩)] w (aX w R d (binS f 1 d ts)) :=
 tT ((wB f R).1 f (Nat.le_refl _) d 1 ts w hr hd hne)
end Go.Proofs.YtkkeocnnecegbaaGreatDoor
namespace Go.Proofs.YtkkeocnnecegbaaGreatDoor
open Go.RowKit
def nV (X L:Nat) (y:Item) (v:Value) (w':World):Prop:=v=.tuple #[]∧∃ C,aO w' X L C y
def kZ (g:Item→Item) (res:Rd):Rd :=
 match res with
 | .error e=>.error e
 | .ok (x,ts)=>.ok (g x,ts)
theorem ends_any (f R d X L C k a:Nat) (t:List UInt8) (n:Int) (ks:List Item) (ts:List Tok) (w:World) (h:RD w R ts d) (hx:aO w X L C (.mk k t n a ks)) (hR:R<X) (hd:d≤64) (hk:ks.length≤100000) (hne:bA f d ts≠.error aI) :
  Calls Tryz.prog 183 #[.pointer (some ⟨R,0,none⟩),.pointer (some ⟨X,0,none⟩)] w (OutB X w R d (kZ (fun y=>.mk k t n a (ks ++ [y])) (bA f d ts)) (nV X L)):=by
 have hU:bA f d ts=match binS f 1 d ts with
  | .error e=>.error e
  | .ok (x,ts1)=>match af [59] ts1 with
   | .error e=>.error e
   | .ok ts2=>.ok (x,ts2):=rfl
 have H:=Lib.hid h; have HX:=Lib.hid hx; have HNE:=Lib.hid hne; have HU:=Lib.hid hU
 have hlt:=hx.lt; have hle:=hx.le; have htop:=hx.top
 clear h hx hne hU
 go_enter Tryz.func183,Tryz.ntmps183
 go_wp2_with fail
 refine (nL f R d ts w H.out hd (fun hc=>HNE.out (by rw [HU.out,hc]))).mono ?_
 rintro e w1 ho
 cases hW:binS f 1 d ts with
 | error q =>
  obtain ⟨p,er⟩:=q
  rw [hW] at ho
  obtain ⟨rfl,hk1⟩:=ho.no
  exact⟨rfl,OutB.err (by rw [HU.out,hW]; rfl) (hk1.mono (by omega))⟩
 | ok q =>
  obtain ⟨x,ts1⟩:=q
  rw [hW] at ho
  obtain ⟨p,rfl,hi1,hr1,hk1⟩:=ho.yes
  have HU1:Hid (bA f d ts=match af [59] ts1 with
   | .error e=>.error e
   | .ok ts2=>.ok (x,ts2)):=Lib.hid (by rw [HU.out,hW])
  have HI:=Lib.hid (hi1.alloc (.cells #[.pointer (some ⟨p,0,none⟩)] 93))
  have HR1:=Lib.hid (hr1.alloc (.cells #[.pointer (some ⟨p,0,none⟩)] 93))
  have HX1:=Lib.hid ((((HX.out.grow htop (Nat.le_refl _)).keep hk1 (Nat.le_refl _) hR)).alloc (.cells #[.pointer (some ⟨p,0,none⟩)] 93))
  have HK1:=Lib.hid ((hk1.mono (C:=X) (by omega)).alloc (by have:=hk1.size; omega) (.cells #[.pointer (some ⟨p,0,none⟩)] 93))
  clear hW hi1 hr1 hk1 HU
  go_wp2_with fail
  refine (fG X L w.heap.size w1.heap.size 1 k a t n ks [x] [p] _ HX1.out (Blk.new w1 93 _) (KidsAt.one HI.out) rfl (by omega) (by omega)).mono ?_
  rintro e w2 ⟨rfl,hx2,hk2⟩
  have HX2:=Lib.hid hx2
  have HR2:=Lib.hid (HR1.out.item hk2 hR hlt)
  have HK2:=Lib.hid (HK1.out.trans (hk2.item (B:=X) (Nat.le_refl _) hlt) (Nat.le_refl _))
  have hs2:X≤w2.heap.size:=by have:=hx2.le; omega
  clear hx2 hk2 HX1 HR1 HK1
  obtain ⟨t1,r1,rfl⟩:=HR2.out.fin.cons
  cases hi:isT [59] (t1 :: r1)
  ·have HT:=Lib.hid hi; clear hi
   go_wp2_with fail
   refine (eX (x:=[59]) HR2.out HT.out).mono ?_; rintro e w3 ⟨rfl,hb3⟩
   go_wp2_with fail
   refine⟨rfl,OutB.err ?_ (HK2.out.below hb3 hs2)⟩
   rw [HU1.out]; unfold af; rw [HT.out]; rfl
  ·have HT:=Lib.hid hi; clear hi
   go_wp2_with fail
   refine (dN (x:=[59]) HR2.out HT.out).mono ?_; rintro e w3 ⟨rfl,hr3,hk3⟩
   have HX3:=Lib.hid (HX2.out.keep hk3 (Nat.le_refl _) hR)
   have HR3:=Lib.hid hr3
   have HK3:=Lib.hid (HK2.out.trans hk3 hs2)
   clear hr3 hk3
   go_wp2_with fail
   go_end0
   refine OutB.ok (x:=.mk k t n a (ks ++ [x])) (ts:=r1) ?_ HK3.out HR3.out ⟨rfl,_,HX3.out⟩
   rw [HU1.out]; unfold af; rw [HT.out]; rfl
theorem EJ (R d X L C a:Nat) (ts:List Tok) (w:World) (h:RD w R ts d) (hx:aO w X L C (.mk 14 [] 0 a [])) (hR:R<X) :
  Calls Tryz.prog 184 #[.pointer (some ⟨R,0,none⟩),.pointer (some ⟨X,0,none⟩)] w (OutB X w R d (fC a ts) (nV X L)):=by
 obtain ⟨t,r,rfl⟩:=h.fin.cons
 have hlt:=hx.lt; have hle:=hx.le; have htop:=hx.top
 have H:=Lib.hid h; have HX:=Lib.hid hx
 clear h hx
 by_cases hk:t.kind=1
 ·have hnm:aM (t :: r)=.ok (t.text,r):=by unfold aM; rw [if_pos (show aj (t :: r)=1 from hk)]; rfl
  have HU:Hid (fC a (t :: r)=match af [59] r with
   | .error e=>.error e
   | .ok ts2=>.ok (.mk 14 t.text 0 a [],ts2)):=Lib.hid (by unfold fC; rw [hnm]; simp only []; cases af [59] r <;> rfl)
  have HK:=Lib.hid hk
  clear hk hnm
  go_enter Tryz.func184,Tryz.ntmps184
  go_wp2_with fail
  refine (gI H.out HK.out).mono ?_; rintro e w1 ⟨rfl,hr1,hk1⟩
  have hx1:=HX.out.keep hk1 htop hR
  obtain ⟨v,b1⟩:=hx1.blk
  have e1:w1.cell? ⟨X,1,none⟩=some (.string ⟨([]:List UInt8).toArray⟩):=b1.cell 1
  have e2:=b1.free 1
  have HX1:=Lib.hid (hx1.text t.text)
  have HR1:=Lib.hid (hr1.set (p:=⟨X,1,none⟩) hR (.string ⟨t.text.toArray⟩))
  have HK1:=Lib.hid ((hk1.mono (C:=X) (by omega)).setCell (p:=⟨X,1,none⟩) (Or.inr (Nat.le_refl _)) (.string ⟨t.text.toArray⟩))
  clear b1 hx1 hr1 hk1
  go_upto_region 1 with fail
  generalize w1.setCell ⟨X,1,none⟩ (.string ⟨t.text.toArray⟩)=W1 at *
  clear e1 e2
  have hs1:X≤W1.heap.size:=by have:=HX1.out.top; omega
  obtain ⟨t1,r1,rfl⟩:=HR1.out.fin.cons
  cases hi:isT [59] (t1 :: r1)
  ·have HT:=Lib.hid hi; clear hi
   go_wp2_with fail
   refine (eX (x:=[59]) HR1.out HT.out).mono ?_; rintro e w3 ⟨rfl,hb3⟩
   go_wp2_with fail
   refine⟨rfl,OutB.err ?_ (HK1.out.below hb3 hs1)⟩
   rw [HU.out]; unfold af; rw [HT.out]; rfl
  ·have HT:=Lib.hid hi; clear hi
   go_wp2_with fail
   refine (dN (x:=[59]) HR1.out HT.out).mono ?_; rintro e w3 ⟨rfl,hr3,hk3⟩
   have HX3:=Lib.hid (HX1.out.keep hk3 HX1.out.top hR)
   have HR3:=Lib.hid hr3
   have HK3:=Lib.hid (HK1.out.trans hk3 hs1)
   clear hr3 hk3
   go_wp2_with fail
   go_end0
   refine OutB.ok (x:=.mk 14 t.text 0 a []) (ts:=r1) ?_ HK3.out HR3.out ⟨rfl,_,HX3.out⟩
   rw [HU.out]; unfold af; rw [HT.out]; rfl
 ·have HK:=Lib.hid hk
  have HU:Hid (fC a (t :: r)=.error (t.at',140)):=Lib.hid (by unfold fC aM; rw [if_neg (show ¬ aj (t :: r)=1 from hk)]; rfl)
  clear hk
  go_enter Tryz.func184,Tryz.ntmps184
  go_wp2_with fail
  refine (jH H.out HK.out).mono ?_; rintro e w1 ⟨rfl,hb1⟩
  go_wp2_with fail
  exact⟨rfl,OutB.err HU.out (.of (hb1.mono (by omega)))⟩
theorem yQ (f R d X L C a:Nat) (ts:List Tok) (w:World) (h:RD w R ts d) (hx:aO w X L C (.mk 6 [] 0 a [])) (hR:R<X) (hd:d≤64) (hne:bS f d a ts≠.error aI) :
  Calls Tryz.prog 180 #[.pointer (some ⟨R,0,none⟩),.pointer (some ⟨X,0,none⟩)] w (OutB X w R d (bS f d a ts) (nV X L)):=by
 obtain ⟨t,r,rfl⟩:=h.fin.cons
 have hlt:=hx.lt; have hle:=hx.le; have htop:=hx.top
 have H:=Lib.hid h; have HX:=Lib.hid hx; have HNE:=Lib.hid hne
 clear h hx hne
 by_cases hk:t.kind=1
 ·have hnm:aM (t :: r)=.ok (t.text,r):=by unfold aM; rw [if_pos (show aj (t :: r)=1 from hk)]; rfl
  have HU:Hid (bS f d a (t :: r)=match af [61] r with
   | .error e=>.error e
   | .ok ts2=>kZ (fun x=>.mk 6 t.text 0 a [x]) (bA f d ts2)):=Lib.hid (by
   unfold bS; rw [hnm]; simp only []
   cases af [61] r with
   | error e=>rfl
   | ok ts2 =>
    simp only []
    cases bA f d ts2 <;> rfl)
  have HK:=Lib.hid hk
  clear hk hnm
  go_enter Tryz.func180,Tryz.ntmps180
  go_wp2_with fail
  refine (gI H.out HK.out).mono ?_; rintro e w1 ⟨rfl,hr1,hk1⟩
  have hx1:=HX.out.keep hk1 htop hR
  obtain ⟨v,b1⟩:=hx1.blk
  have e1:w1.cell? ⟨X,1,none⟩=some (.string ⟨([]:List UInt8).toArray⟩):=b1.cell 1
  have e2:=b1.free 1
  have HX1:=Lib.hid (hx1.text t.text)
  have HR1:=Lib.hid (hr1.set (p:=⟨X,1,none⟩) hR (.string ⟨t.text.toArray⟩))
  have HK1:=Lib.hid ((hk1.mono (C:=X) (by omega)).setCell (p:=⟨X,1,none⟩) (Or.inr (Nat.le_refl _)) (.string ⟨t.text.toArray⟩))
  clear b1 hx1 hr1 hk1
  go_upto_region 1 with fail
  generalize w1.setCell ⟨X,1,none⟩ (.string ⟨t.text.toArray⟩)=W1 at *
  clear e1 e2
  have hs1:X≤W1.heap.size:=by have:=HX1.out.top; omega
  obtain ⟨t1,r1,rfl⟩:=HR1.out.fin.cons
  cases hi:isT [61] (t1 :: r1)
  ·have HT:=Lib.hid hi; clear hi
   go_wp2_with fail
   refine (eX (x:=[61]) HR1.out HT.out).mono ?_; rintro e w3 ⟨rfl,hb3⟩
   go_wp2_with fail
   refine⟨rfl,OutB.err ?_ (HK1.out.below hb3 hs1)⟩
   rw [HU.out]; unfold af; rw [HT.out]; rfl
  ·have HT:=Lib.hid hi; clear hi
   go_wp2_with fail
   refine (dN (x:=[61]) HR1.out HT.out).mono ?_; rintro e w3 ⟨rfl,hr3,hk3⟩
   have HX3:=Lib.hid (HX1.out.keep hk3 HX1.out.top hR)
   have HR3:=Lib.hid hr3
   have HK3:=Lib.hid (HK1.out.trans hk3 hs1)
   have HU3:Hid (bS f d a (t :: t1 :: r1)=kZ (fun x=>.mk 6 t.text 0 a [x]) (bA f d r1)):=Lib.hid (by rw [HU.out]; unfold af; rw [HT.out]; rfl)
   clear hr3 hk3
   go_wp2_with fail
   refine (ends_any f R d X L C 6 a t.text 0 [] r1 w3 HR3.out HX3.out hR hd (by simp) (fun hc=>HNE.out (by rw [HU3.out,hc]; rfl))).mono ?_
   rintro e w4 ⟨hk4,ho⟩
   have HK4:=Lib.hid (HK3.out.trans hk4 (Nat.le_refl _))
   simp only [List.nil_append] at ho
   rw [← HU3.out] at ho
   cases hW:bS f d a (t :: t1 :: r1) with
   | error q =>
    obtain ⟨p,er⟩:=q
    rw [hW] at ho
    subst ho
    exact⟨rfl,OutB.err rfl HK4.out⟩
   | ok q =>
    obtain ⟨y,ts2⟩:=q
    rw [hW] at ho
    obtain ⟨hr4,v,rfl,rfl,C4,hx4⟩:=ho
    have HR4:=Lib.hid hr4
    have HX4:=Lib.hid hx4
    have HW:=Lib.hid hW
    clear hr4 hx4 hk4 hW
    go_wp2_with fail
    go_end0
    exact OutB.ok HW.out HK4.out HR4.out ⟨rfl,C4,HX4.out⟩
 ·have HK:=Lib.hid hk
  have HU:Hid (bS f d a (t :: r)=.error (t.at',140)):=Lib.hid (by unfold bS aM; rw [if_neg (show ¬ aj (t :: r)=1 from hk)]; rfl)
  clear hk
  go_enter Tryz.func180,Tryz.ntmps180
  go_wp2_with fail
  refine (jH H.out HK.out).mono ?_; rintro e w1 ⟨rfl,hb1⟩
  go_wp2_with fail
  exact⟨rfl,OutB.err HU.out (.of (hb1.mono (by omega)))⟩
end Go.Proofs.YtkkeocnnecegbaaGreatDoor
namespace Go.Proofs.YtkkeocnnecegbaaGreatDoor
open Go.RowKit
theorem Dc {f d:Nat} {acc:List Item} {ts:List Tok} (h:isT [125] ts=true):stmtsS (f+1) d acc ts=.ok (acc,ts):=by unfold stmtsS; rw [if_pos h]
theorem stmts_one {f d:Nat} {acc:List Item} {ts:List Tok} (h:isT [125] ts=false):stmtsS (f+1) d acc ts=match aZ f d ts with
  | .error e=>.error e
  | .ok (x,ts1)=>stmtsS f d (acc ++ [x]) ts1:=by
 conv=>lhs; unfold stmtsS
 rw [if_neg (by rw [h]; simp)]
 cases aZ f d ts <;> rfl
theorem Bv {d:Nat} {acc:List Item} {ts:List Tok}:stmtsS 0 d acc ts=.error aI:=by unfold stmtsS; rfl
theorem Au (f B bx br X L R d a T:Nat) (ts:List Tok) (w:World) (hQ:bX bx br X L R 5 [] 0 a [] w) (hb:iN bx br X L R) (hr:RD w R ts d) (hB:B≤X) (hT:ts.length≤T) (hT2:T≤100000)
  (ih:∀ g,g<f→∀ W ts',RD W R ts' d→ts'.length≤T→aZ g d ts'≠.error aI→Calls Tryz.prog 146 #[.pointer (some ⟨R,0,none⟩)] W (aX W R d (aZ g d ts')))
  (hne:stmtsS f d [] ts≠.error aI) :
  Calls Tryz.prog 145 #[.pointer (some ⟨br,0,none⟩),.pointer (some ⟨bx,0,none⟩)] w (OutB B w R d (stmtsS f d [] ts) fun l v w'=>v=.tuple #[]∧bX bx br X L R 5 [] 0 a l w'):=by
 have HQ:=Lib.hid hQ; have HB:=Lib.hid hb; have HR:=Lib.hid hr; have IH:=Lib.hid ih; have HNE:=Lib.hid hne
 have htop:L≤w.heap.size:=by obtain ⟨C,h⟩:=hQ.it; have:=h.le; have:=h.top; omega
 have hXL:X<L:=by obtain ⟨C,h⟩:=hQ.it; exact h.lt
 clear hQ hb hr ih hne
 go_enter Tryz.func145,Tryz.ntmps145
 go_wp2_with fail
 go_loopg [] f (fun g wr=>∃ (acc:List Item) (ts':List Tok),Hid (RD wr R ts' d∧au B R w wr∧L≤wr.heap.size∧g≤f∧acc.length+ts'.length≤T)∧Hid (bX bx br X L R 5 [] 0 a acc wr)∧Hid (stmtsS g d acc ts'=stmtsS f d [] ts))
 case atStart=>exact⟨[],ts,Lib.hid ⟨HR.out,au.refl _ _ _,htop,Nat.le_refl _,by simpa using hT⟩,HQ,Lib.hid rfl⟩
 case round =>
  obtain ⟨acc,ts',HA,HQA,HG⟩:=hrel
  cases gk with
  | zero =>
   exfalso
   have:=HG.out
   rw [Bv] at this
   exact HNE.out this.symm
  | succ gk =>
   obtain ⟨t',r',rfl⟩:=HA.out.1.fin.cons
   have c0:wr.cell? ⟨br,0,none⟩=some (.pointer (some ⟨R,0,none⟩)):=HQA.out.br.cell 0
   cases hi:isT [125] (t' :: r')
   ·have HI:=Lib.hid hi; clear hi
    have HG2:Hid ((match aZ gk d (t' :: r') with
     | .error e=>.error e
     | .ok (x,ts1)=>stmtsS gk d (acc ++ [x]) ts1)=stmtsS f d [] ts):=Lib.hid (by rw [← HG.out,stmts_one HI.out])
    clear HG
    go_wp2_with fail
    refine (dH R t' r' d [125] _ HA.out.1).mono ?_; rintro e w1 ⟨rfl,hb1⟩; rw [HI.out]
    have HR1:=Lib.hid (HA.out.1.below hb1 HA.out.1.lt.1)
    have HQ1:=Lib.hid (HQA.out.keep HB.out (.of hb1))
    have HK1:Hid (au B R w w1):=Lib.hid (HA.out.2.1.below hb1 (by have:=HA.out.2.2.1; omega))
    have hs1:L≤w1.heap.size:=Nat.le_trans HA.out.2.2.1 hb1.size
    clear hb1 c0 HQA
    have cx:w1.cell? ⟨bx,0,none⟩=some (.pointer (some ⟨X,0,none⟩)):=HQ1.out.bx.cell 0
    have cr:w1.cell? ⟨br,0,none⟩=some (.pointer (some ⟨R,0,none⟩)):=HQ1.out.br.cell 0
    have lx:=HQ1.out.bx.lt
    have lr:=HQ1.out.br.lt
    go_wp2_with fail
    have CALL:=Lib.hid (fun W hW=>IH.out gk (by have:=HA.out.2.2.2.1; omega) W (t' :: r') hW (by have:=HA.out.2.2.2.2; omega) (fun hc=>HNE.out (by rw [← HG2.out,hc])))
    cases hW:aZ gk d (t' :: r') with
    | error q =>
     obtain ⟨p,er⟩:=q
     have HC:=Lib.hid (fun W hW'=>(hW ▸ CALL.out W hW').mono (fun _ _=>aX.no))
     have HF:Hid (stmtsS f d [] ts=.error (p,er)):=Lib.hid (by rw [← HG2.out,hW])
     clear hW CALL
     refine wp_region_held_drew (S:=fun w'=>w'.cell? ⟨bx,0,none⟩=some (.pointer (some ⟨X,0,none⟩))∧w'.cell? ⟨br,0,none⟩=some (.pointer (some ⟨R,0,none⟩))) (by kernel_rfl) ⟨cx,cr⟩ (fun hS=>?_)
     refine wpAnyH_take (i:=0) (v:=.pointer (some ⟨X,0,none⟩)) rfl (by kernel_rfl) (by kernel_rfl) (by kernel_rfl) (fun _ _ _ h=>h) (Or.inl ⟨by rfl,?_⟩) hS ?_
     ·intro W hW
      go_simp
     simp only [Act.put,List.setIfInBounds_toArray]
     refine wpAnyH_take (i:=1) (v:=.pointer (some ⟨R,0,none⟩)) rfl (by kernel_rfl) (by kernel_rfl) (by kernel_rfl) (fun _ _ _ h=>h) (Or.inl ⟨by rfl,?_⟩) hS ?_
     ·intro W hW
      go_simp
     simp only [Act.put]
     refine wpAnyH_ready (rs:=[2]) (by kernel_rfl) (by simp) ?_
     refine AllReadyH.cons rfl (fun K hK=>?_) .nil
     go_simp
     refine (HC.out _ HR1.out.drew).mono ?_
     rintro e w2 ⟨rfl,hk2⟩
     exact⟨rfl,OutB.err HF.out (HK1.out.trans (au.fD hk2) (by show B≤w1.heap.size; omega))⟩
    | ok q =>
     obtain ⟨x,ts1⟩:=q
     have HC:=Lib.hid (fun W hW'=>(hW ▸ CALL.out W hW').mono (fun _ _=>aX.yes))
     have HG3:Hid (stmtsS gk d (acc ++ [x]) ts1=stmtsS f d [] ts):=Lib.hid (by rw [← HG2.out,hW])
     have HLN:=Lib.hid ((kC gk).2.2.2.2 _ _ _ _ HR1.out.fin hW)
     clear hW CALL HG2
     obtain ⟨hbx,hbr,C,hit⟩:=HQ1.out
     have HIT:=Lib.hid (hit.grow hit.top (Nat.le_refl _)).drew
     have HBX:Hid (Blk w1.drew bx 93 #[.pointer (some ⟨X,0,none⟩)]):=Lib.hid hbx
     have HBR:Hid (Blk w1.drew br 90 #[.pointer (some ⟨R,0,none⟩)]):=Lib.hid hbr
     have hacc:acc.length≤100000:=by have:=HA.out.2.2.2.2; omega
     clear hbx hbr hit
     go_region_held3 (fun w'=>w'.cell? ⟨bx,0,none⟩=some (.pointer (some ⟨X,0,none⟩))∧w'.cell? ⟨br,0,none⟩=some (.pointer (some ⟨R,0,none⟩)))
      (first | go_keep)
      (first
       | (go_at_call 146; refine (HC.out _ HR1.out.drew).mono ?_; rintro e w2 ⟨p,rfl,hi1,hr1,hk1⟩; have b1:=HBX.out.kept hk1 lx HB.out.xR; have b2:=HBR.out.kept hk1 lr HB.out.rR; have c1:w2.cell? ⟨bx,0,none⟩=some (.pointer (some ⟨X,0,none⟩)):=b1.cell 0; have c2:w2.cell? ⟨br,0,none⟩=some (.pointer (some ⟨R,0,none⟩)):=b2.cell 0; have l1:=b1.lt; have l2:=b2.lt; have BX1:=Lib.hid b1; have BR1:=Lib.hid b2; have IT1:=Lib.hid (HIT.out.keep hk1 (Nat.le_refl _) HB.out.RX); have HI1:=Lib.hid hi1; have HR2:=Lib.hid hr1; have HK2:=Lib.hid hk1; clear b1 b2 hi1 hr1 hk1)
       | (go_at_call 53; refine (fG X L w1.drew.heap.size w2.heap.size 1 5 a [] 0 acc [x] [p] _ (IT1.out.alloc _) (Blk.new w2 93 _) (KidsAt.one (HI1.out.alloc _)) rfl (by omega) (by omega)).mono ?_; rintro e w3 ⟨rfl,it2,k2⟩; have b1:=(BX1.out.alloc (.cells #[.pointer (some ⟨p,0,none⟩)] 93)).kept k2 HB.out.x HB.out.xX; have b2:=(BR1.out.alloc (.cells #[.pointer (some ⟨p,0,none⟩)] 93)).kept k2 HB.out.r HB.out.rX; have d1:w3.cell? ⟨bx,0,none⟩=some (.pointer (some ⟨X,0,none⟩)):=b1.cell 0; have d2:w3.cell? ⟨br,0,none⟩=some (.pointer (some ⟨R,0,none⟩)):=b2.cell 0; have BX2:=Lib.hid b1; have BR2:=Lib.hid b2; have IT2:=Lib.hid it2; have K2:=Lib.hid k2; clear b1 b2 it2 k2))
     go_wp2_with fail
     have hs2:w1.heap.size≤w2.heap.size:=HK2.out.size
     have KK1:=HK1.out.trans (au.fD HK2.out) (by show B≤w1.heap.size; omega)
     have KK2:=Lib.hid ((KK1.alloc (by omega) (.cells #[.pointer (some ⟨p,0,none⟩)] 93)).trans (K2.out.item (B:=B) hB hXL) (Nat.le_refl _))
     go_roundg gk
     case measure=>omega
     case rel=>exact⟨acc ++ [x],ts1,Lib.hid ⟨(HR2.out.alloc _).item K2.out HB.out.RX hXL,KK2.out,by have:=IT2.out.le; omega,by have:=HA.out.2.2.2.1; omega,by have:=HA.out.2.2.2.2; have:=HLN.out.2; simp only [List.length_cons,List.length_append,List.length_nil] at *; omega⟩,Lib.hid ⟨BX2.out,BR2.out,_,IT2.out⟩,HG3⟩
   ·have HI:=Lib.hid hi; clear hi
    have HG2:Hid (stmtsS f d [] ts=.ok (acc,t' :: r')):=Lib.hid (by rw [← HG.out,Dc HI.out])
    clear HG
    go_wp2_with fail
    refine (dH R t' r' d [125] _ HA.out.1).mono ?_; rintro e w1 ⟨rfl,hb1⟩; rw [HI.out]
    have HR1:=Lib.hid (HA.out.1.below hb1 HA.out.1.lt.1)
    have HQ1:=Lib.hid (HQA.out.keep HB.out (.of hb1))
    have HK1:Hid (au B R w w1):=Lib.hid (HA.out.2.1.below hb1 (by have:=HA.out.2.2.1; omega))
    clear hb1 c0 HQA
    go_wp2_with fail
    go_end0
    exact OutB.ok HG2.out HK1.out HR1.out ⟨rfl,HQ1.out⟩
theorem Gf (cap:Array Value) (W:World):(callFunc 145 cap).run Tryz.prog W=.ok (.enter 145 cap) W:=by kernel_rfl
theorem rY {x:List UInt8} {d:Nat} {ts ts1:List Tok} (h:aR x d ts=.ok ts1):d<64∧af x ts=.ok ts1:=by
 unfold aR at h
 split at h
 ·cases h
 ·rename_i hne
  refine⟨?_,h⟩
  unfold af at h
  split at h
  ·rename_i his
   rw [his] at hne
   simpa using hne
  ·cases h
theorem block_step (f R d T:Nat) (ts:List Tok) (w:World) (h:RD w R ts d) (hd:d≤64) (hT:ts.length≤T) (hT2:T≤100000)
  (ih:∀ g,g<f→∀ W ts',RD W R ts' (d+1)→d+1≤64→ts'.length≤T→aZ g (d+1) ts'≠.error aI→Calls Tryz.prog 146 #[.pointer (some ⟨R,0,none⟩)] W (aX W R (d+1) (aZ g (d+1) ts')))
  (hne:aH (f+1) d ts≠.error aI):Calls Tryz.prog 95 #[.pointer (some ⟨R,0,none⟩)] w (aX w R d (aH (f+1) d ts)):=by
 have hU:aH (f+1) d ts=match withinR [123] [125] d (stmtsS f (d+1) []) ts with
  | .error e=>.error e
  | .ok (l,r)=>.ok (.mk 5 [] 0 (nowAt ts) l,r):=by
  conv=>lhs; unfold aH
  unfold withinR
  cases aR [123] d ts with
  | error e=>rfl
  | ok ts1 =>
   simp only []
   cases stmtsS f (d+1) [] ts1 with
   | error e=>rfl
   | ok v =>
    obtain ⟨l,r⟩:=v
    simp only []
    rw [if_neg (by simp)]
    cases af [125] r <;> rfl
 have H:=Lib.hid h; have IH:=Lib.hid ih; have HNE:=Lib.hid hne; have HU:=Lib.hid hU
 clear h ih hne hU
 go_enter Tryz.func95,Tryz.ntmps95
 go_wp2_with fail
 refine (dX R d 5 ts _ (H.out.alloc _)).mono ?_; rintro e w1 ⟨X,rfl,hX,hb1,hk1⟩
 have hRw:=H.out.lt.1
 have hXw:w.heap.size<X:=by simp at hX; omega
 have HBX:=Lib.hid hb1; have HK1:=Lib.hid hk1
 have hbr:Blk w1 w.heap.size 90 #[.pointer (some ⟨R,0,none⟩)]:=(Blk.new w 90 _).below hk1
 have HBR:=Lib.hid hbr
 have c1:w1.cell? ⟨w.heap.size,0,none⟩=some (.pointer (some ⟨R,0,none⟩)):=hbr.cell 0
 have l1:=hbr.lt
 have lX:=HBX.out.lt
 clear hX hb1 hk1 hbr
 have n1:¬ w1.heap.size=X:=by omega
 have n2:¬ w.heap.size=X:=by omega
 have HR1:=Lib.hid (((H.out.alloc (.cells #[.pointer (some ⟨R,0,none⟩)] 90)).below HK1.out (by simp; omega)).alloc (.cells #[.pointer (some ⟨X,0,none⟩)] 93))
 have HK2:=Lib.hid (((((au.refl _ R w).alloc (Nat.le_refl _) (.cells #[.pointer (some ⟨R,0,none⟩)] 90)).below HK1.out (by simp))).alloc (by omega) (.cells #[.pointer (some ⟨X,0,none⟩)] 93))
 have HQ:Hid (bX w1.heap.size w.heap.size X (w1.heap.size+1) R 5 [] 0 (nowAt ts) [] (w1.alloc (.cells #[.pointer (some ⟨X,0,none⟩)] 93))):=Lib.hid ⟨Blk.new w1 93 _,HBR.out.alloc _,_,aO.new (HBX.out.alloc _) (show X<w1.heap.size+1 by omega) (by simp)⟩
 have HB:Hid (iN w1.heap.size w.heap.size X (w1.heap.size+1) R):=Lib.hid ⟨by omega,by omega,n1,n2,by omega,by omega,by omega⟩
 have hs2:w.heap.size≤(w1.alloc (.cells #[.pointer (some ⟨X,0,none⟩)] 93)).heap.size:=by simp; omega
 go_wp2_with fail
 refine (ji (α:=List Item) w.heap.size R d 145 [123] [125] #[.pointer (some ⟨w.heap.size,0,none⟩),.pointer (some ⟨w1.heap.size,0,none⟩)] ts _ (stmtsS f (d+1) []) (fun l _ w'=>bX w1.heap.size w.heap.size X (w1.heap.size+1) R 5 [] 0 (nowAt ts) l w') HR1.out hd hs2 (Gf _) ?hF ?hP).mono ?_
 case hF =>
  intro ts1 w5 hop hr5 hk5
  obtain ⟨hdd,htk⟩:=rY hop
  have hln:=aB HR1.out.fin htk
  have hne1:stmtsS f (d+1) [] ts1≠.error aI:=by
   intro hc
   apply HNE.out
   rw [HU.out]; unfold withinR; rw [hop]; simp only []; rw [hc]
  exact Au f w.heap.size _ _ X (w1.heap.size+1) R (d+1) (nowAt ts) T ts1 w5 (HQ.out.keep HB.out hk5) HB.out hr5 (by omega) (by omega) hT2 (fun g hg W ts' hW hl hn=>IH.out g hg W ts' hW (by omega) hl hn) hne1
 case hP=>intro a wa wb ha hk; exact ha.keep HB.out hk
 rintro e w5 ⟨hk5,ho⟩
 have HK5:=Lib.hid (HK2.out.trans hk5 (Nat.le_refl _))
 cases hW:withinR [123] [125] d (stmtsS f (d+1) []) ts with
 | error q =>
  obtain ⟨p,er⟩:=q
  rw [hW] at ho
  subst ho
  refine⟨rfl,OutB.err ?_ HK5.out⟩
  rw [HU.out,hW]
 | ok q =>
  obtain ⟨l,r2⟩:=q
  rw [hW] at ho
  obtain ⟨hr5,v,rfl,hq5⟩:=ho
  have HR5:=Lib.hid hr5
  have e1:w5.cell? ⟨w1.heap.size,0,none⟩=some (.pointer (some ⟨X,0,none⟩)):=hq5.bx.cell 0
  have HQ5:=Lib.hid hq5
  have HW:=Lib.hid hW
  clear hW hr5 hk5 hq5 c1
  go_wp2_with fail
  go_ret
  obtain ⟨C,hit⟩:=HQ5.out.it
  refine OutB.ok (x:=.mk 5 [] 0 (nowAt ts) l) (ts:=r2) ?_ HK5.out HR5.out ⟨X,rfl,hit.close.mono (fun j hj _=>by omega)⟩
  rw [HU.out,HW.out]
end Go.Proofs.YtkkeocnnecegbaaGreatDoor
