/- Joint text: TS, TT, RP, TL. By an AI agent. -/
import Derived.Test.YtkkeocnnecegbaaGreatDoorQ27
import Derived.Deep.RegionHeld3
import Derived.Test.YtkkeocnnecegbaaGreatDoorQ21
import Derived.Shelf.Bits.Mul64
import Derived.Laws.CopyOwn
import Derived.Deep.RegionLaw
import Derived.LaidEql
import Derived.Stop.Asserts
import Derived.RowKitTokens
set_option linter.all false
set_option maxRecDepth 100000
set_option maxHeartbeats 64000000
namespace Go.Proofs.YtkkeocnnecegbaaGreatDoor
open Go.RowKit
def iA (w:World) (g:Nat) (v:Value) (ks:List Int):Prop:=∃ A c,v=.slice A ks.length c∧ks.length≤c∧(ks=[]∨∃ b o,A=some ⟨b,o,none⟩∧b≠g∧∀ i k,ks[i]? = some k→w.cell? ⟨b,o+i,none⟩=some (.int .i64 k))
theorem iA.out {w:World} {g:Nat} {v:Value} {ks:List Int} (h:iA w g v ks):eO w v ks:=by
 obtain ⟨A,c,e,hc,h⟩:=h
 exact⟨A,c,e,hc,h.imp id (fun ⟨b,o,e1,_,h⟩=>⟨b,o,e1,h⟩)⟩
theorem iA.below {w w':World} {g:Nat} {v:Value} {ks:List Int} (h:iA w g v ks) (hb:Below w.heap.size w w'):iA w' g v ks:=by
 obtain ⟨A,c,e,hc,h⟩:=h
 refine⟨A,c,e,hc,h.imp id (fun ⟨b,o,e1,e2,h⟩=>⟨b,o,e1,e2,fun i k hi=>(hb.cell (p:=⟨b,_,none⟩) (aa (h i k hi))).trans (h i k hi)⟩)⟩
theorem iA.put {w:World} {g:Nat} {v:Value} {ks:List Int} (h:iA w g v ks) (i:Nat) (u:Value):iA (w.setCell ⟨g,i,none⟩ u) g v ks:=by
 obtain ⟨A,c,e,hc,h⟩:=h
 refine⟨A,c,e,hc,h.imp id (fun ⟨b,o,e1,e2,h⟩=>⟨b,o,e1,e2,fun j k hj=>?_⟩)⟩
 rw [World.cell?_of_block (w:=w) (Below.heap_setCell w ⟨g,i,none⟩ u b e2)]
 exact h j k hj
theorem eO.far {w:World} {g:Nat} {v:Value} {ks:List Int} (h:eO w v ks) (hg:(∀ q,v.ownBlock=some q→q≠g)):iA w g v ks:=by
 obtain ⟨A,c,rfl,hc,h⟩:=h
 exact⟨A,c,rfl,hc,h.imp id (fun ⟨b,o,e1,h⟩=>⟨b,o,e1,hg b (by rw [e1]; rfl),h⟩)⟩
theorem eO.old {w:World} {g:Nat} {v:Value} {ks:List Int} (h:eO w v ks) (hg:w.heap.size≤g):iA w g v ks:=by
 obtain ⟨A,c,rfl,hc,h⟩:=h
 refine⟨A,c,rfl,hc,?_⟩
 cases ks with
 | nil=>exact Or.inl rfl
 | cons k r =>
  rcases h with h | ⟨b,o,e1,h⟩
  ·exact Or.inl h
  ·exact Or.inr ⟨b,o,e1,by have:=aa (h 0 k rfl); omega,h⟩
theorem xK:∀ (l:List PV) (i:Nat) (g:PV) (v:Value),l[i]? = some g→eZ (l.set i (g.1,v))=(eZ l).set (i*5+4) v
 | [],i,g,v,h=>by simp at h
 | x :: r,0,g,v,h=>by
  simp only [List.getElem?_cons_zero,Option.some.injEq] at h
  subst h
  rfl
 | x :: r,i+1,g,v,h=>by
  rw [List.getElem?_cons_succ] at h
  have ih:=xK r i g v h
  show pvC x ++ eZ (r.set i (g.1,v))=(pvC x ++ eZ r).set _ v
  rw [ih,show (i+1)*5+4=(pvC x).length+(i*5+4) by simp [pvC]; omega,List.set_append_right _ _ (by omega),Nat.add_sub_cancel_left]
theorem IG {l:List PV} {i:Nat} {g:PV} (v:Value) (h:l[i]? = some g):gns (l.set i (g.1,v))=gns l:=by
 unfold gns
 rw [List.map_set]
 apply List.ext_getElem?
 intro j
 rw [List.getElem?_set]
 split
 ·rename_i e
  subst e
  have hi:=(List.getElem?_eq_some_iff.1 h).1
  rw [List.getElem?_map,h]
  simp [hi]
 ·rfl
theorem JH {w:World} {g n:Nat} {cur:Array Value} {l:List PV} (hb:Blk w g 43 cur) (hn:n=l.length) (ht:cur.toList.take (n*5)=eZ l) (hk:∀ x∈l,eO w x.2 x.1.kids):bg w (some ⟨g,0,none⟩) l:=by
 refine Or.inr ⟨g,0,rfl,fun i x hi=>?_⟩
 have hil:=(List.getElem?_eq_some_iff.1 hi).1
 have e:∀ k,k<5→w.cell? ⟨g,0+i*5+k,none⟩=(eZ l)[i*5+k]?:=fun k hk=>by
  rw [Nat.zero_add,hb.cell,← ht,List.getElem?_take,if_pos (by omega),Array.getElem?_toList]
 obtain ⟨p0,p1,p2,p3,p4⟩:=nP l i x hi
 exact⟨(e 0 (by omega)).trans p0,(e 1 (by omega)).trans p1,(e 2 (by omega)).trans p2,(e 3 (by omega)).trans p3,(e 4 (by omega)).trans p4,hk x (List.mem_of_getElem? hi)⟩
theorem Kt {tmps:Array Value} {W:World} {X n c:Nat} {A:Option Addr} (t2:tmps[2]? = some (.pointer (some ⟨X,0,none⟩))) (c1:W.cell? ⟨X,0,none⟩=some (.slice A n c)):(results Tryz.f64 tmps).run Tryz.prog W=.ok (.agg #[.slice A n c]) W:=by
 simp [results,Tryz.results64,go_sem,t2,c1]
theorem Er (b o c:Nat) (l:List PV) (w:World) (h:bg w (some ⟨b,o,none⟩) l) (hpos:0<l.length) (hl:l.length≤1000000) (hk:∀ g∈l,g.1.kids.length≤1000000) :
  Calls Tryz.prog 64 #[.agg #[.slice (some ⟨b,o,none⟩) l.length c]] w fun e w'=>∃ A' c' l',e=.returned (.agg #[.slice A' l.length c'])∧l'.length=l.length∧gns l'=gns l∧bg w' A' l'∧(∀ b o,A'=some ⟨b,o,none⟩→w.heap.size≤b)∧(∀ x∈l',∀ q,x.2.ownBlock=some q→w.heap.size≤q)∧Below w.heap.size w w':=by
 have hb0:Below w.heap.size w ((w.alloc (.cells #[.slice (some ⟨b,o,none⟩) l.length c] 24)).alloc (.cells #[.slice none 0 0] 24)):=((Below.refl _ _).alloc (Nat.le_refl _) _).alloc (by simp) _
 have HX1:Hid (Blk ((w.alloc (.cells #[.slice (some ⟨b,o,none⟩) l.length c] 24)).alloc (.cells #[.slice none 0 0] 24)) w.heap.size 24 #[.slice (some ⟨b,o,none⟩) l.length c]):=Lib.hid ((Blk.new w 24 _).alloc _)
 have HX2:Hid (Blk ((w.alloc (.cells #[.slice (some ⟨b,o,none⟩) l.length c] 24)).alloc (.cells #[.slice none 0 0] 24)) (w.heap.size+1) 24 #[.slice none 0 0]):=Lib.hid (dF _ _ _ _ (by simp))
 have HC:=Lib.hid (zg b o c l _ (h.below hb0) hl)
 have H:=Lib.hid h; have HK:=Lib.hid hk; have HB0:=Lib.hid hb0
 obtain ⟨n,hn⟩:∃ n,n=l.length:=⟨_,rfl⟩
 rw [← hn] at HX1 HX2 HC HB0 hpos hl ⊢
 have HN:=Lib.hid hn
 clear h hk hb0 hn
 go_enter Tryz.func64,Tryz.ntmps64
 go_upto_region 1 with fail
 obtain ⟨X,hX⟩:∃ X,X=w.heap.size:=⟨_,rfl⟩
 rw [← hX] at HX1 HX2 ⊢
 have HXW:=Lib.hid hX
 clear hX
 generalize hwa:(w.alloc (.cells #[.slice (some ⟨b,o,none⟩) n c] 24)).alloc (.cells #[.slice none 0 0] 24)=wa at *
 have hwas:X+1<wa.heap.size:=HX2.out.lt
 clear hwa
 have q0:wa.cell? ⟨X,0,none⟩=some (.slice (some ⟨b,o,none⟩) n c):=HX1.out.cell 0
 have lX:=HX1.out.lt
 go_wp2_with fail
 refine HC.out.mono ?_
 rintro e w1 ⟨v1,rfl,hown,hb1⟩
 rcases hown.2 with ⟨_,h0⟩ | ⟨g,cap,cur,rfl,hge,hcur,hnc,_,hsz,ht⟩
 ·omega
 have b1:=HX1.out.below hb1
 have b2:=HX2.out.below hb1
 have q1:w1.cell? ⟨X,0,none⟩=some (.slice (some ⟨b,o,none⟩) n c):=b1.cell 0
 have f1:=b1.free 0
 have l1:=b1.lt
 have BX:Hid (Blk (w1.setCell ⟨X,0,none⟩ (.slice (some ⟨g,0,none⟩) n cap)) X 24 #[.slice (some ⟨g,0,none⟩) n cap]):=Lib.hid (b1.put 0 _)
 have BY:Hid (Blk (w1.setCell ⟨X,0,none⟩ (.slice (some ⟨g,0,none⟩) n cap)) (X+1) 24 #[.slice none 0 0]):=Lib.hid (b2.far (by omega) 0 _)
 have BG:Hid (Blk (w1.setCell ⟨X,0,none⟩ (.slice (some ⟨g,0,none⟩) n cap)) g 43 cur):=Lib.hid (Blk.far (show Blk w1 g 43 cur from hcur) (by omega) 0 _)
 have HBW:Hid (Below w.heap.size w (w1.setCell ⟨X,0,none⟩ (.slice (some ⟨g,0,none⟩) n cap))):=Lib.hid ((ag HB0.out hb1).setCell (p:=⟨X,0,none⟩) (by show w.heap.size≤X; have:=HXW.out; omega) _)
 have HKN:Hid (∀ x∈l,iA (w1.setCell ⟨X,0,none⟩ (.slice (some ⟨g,0,none⟩) n cap)) g x.2 x.1.kids):=Lib.hid (fun x hx=>by
  obtain ⟨j,hj⟩:=List.mem_iff_getElem?.1 hx
  obtain ⟨_,_,_,_,_,_,_,_,x5⟩:=H.out.at hj
  exact (x5.old (g:=g) (by have:=HB0.out.size; omega)).below HBW.out)
 have HT:Hid (cur.toList.take (n*5)=eZ l∧n*5≤cur.size):=Lib.hid ⟨ht,by rw [hsz]; exact Nat.mul_le_mul_right 5 hnc⟩
 have hgX:g≠X:=by omega
 have hgY:g≠X+1:=by omega
 clear b1 b2 hown hcur ht hsz hb1 q0 lX HX1 HX2
 go_upto_region 2 with fail
 clear q1 f1 l1
 generalize w1.setCell ⟨X,0,none⟩ (.slice (some ⟨g,0,none⟩) n cap)=w2 at *
 have q0:w2.cell? ⟨X,0,none⟩=some (.slice (some ⟨g,0,none⟩) n cap):=BX.out.cell 0
 have lX:=BX.out.lt
 go_wp2_with fail
 go_loopg [11] n (fun gk v wr=>∃ (i:Nat) (cu:Array Value) (li:List PV),i≤n∧n - i≤gk∧v=.int .i64 i∧Hid (Blk wr g 43 cu∧cu.toList.take (n*5)=eZ li∧n*5≤cu.size∧gns li=gns l∧(∀ x∈li,iA wr g x.2 x.1.kids))∧Hid (Blk wr X 24 #[.slice (some ⟨g,0,none⟩) n cap])∧Hid (Blk wr (X+1) 24 #[.slice none 0 0])∧Hid (Below w.heap.size w wr)∧Hid (∀ (j:Nat) (x:PV),j<i→li[j]? = some x→∀ q,x.2.ownBlock=some q→w.heap.size≤q))
 case atStart=>exact⟨0,cur,l,Nat.zero_le _,Nat.le_refl _,rfl,Lib.hid ⟨BG.out,HT.out.1,HT.out.2,rfl,HKN.out⟩,BX,BY,HBW,Lib.hid (fun j x hj=>absurd hj (Nat.not_lt_zero _))⟩
 case round =>
  obtain ⟨i,cu,li,hi,hgk,rfl,HG,HX,HY,HB,HOWN⟩:=hrel
  have q0:wr.cell? ⟨X,0,none⟩=some (.slice (some ⟨g,0,none⟩) n cap):=HX.out.cell 0
  have lX:=HX.out.lt
  have q2:wr.cell? ⟨X+1,0,none⟩=some (.slice none 0 0):=HY.out.cell 0
  have f2:=HY.out.free 0
  have lY:=HY.out.lt
  by_cases hlt:i<n
  case neg =>
   go_wp2_with fail
   have hy:=HY.out.put 0 (.slice (some ⟨g,0,none⟩) n cap)
   refine bodyPost_ret (Kt (X:=X+1) (by simp) (hy.cell 0)) rfl ?_
   obtain ⟨h1,h2,h3,h4,h5⟩:=HG.out
   have hln:li.length=n:=by have:=congrArg List.length h4; rw [dA,dA,← HN.out] at this; exact this
   refine⟨_,_,li,rfl,hln,h4,JH (h1.far hgY 0 _) hln.symm h2 (fun x hx=>?_),fun b' o' e=>?_,fun x hx q hq=>?_,HB.out.setCell (p:=⟨X+1,0,none⟩) (by show w.heap.size≤X+1; have:=HXW.out; omega) _⟩
   ·have hx5:=h5 x hx
    obtain ⟨A,c',e,hc',h6⟩:=hx5
    refine⟨A,c',e,hc',h6.imp id (fun ⟨b6,o6,e1,e2,h7⟩=>⟨b6,o6,e1,fun j k hj=>?_⟩)⟩
    have h8:=h7 j k hj
    by_cases hbb:b6=X+1
    ·exfalso
     subst hbb
     rw [HY.out.cell] at h8
     rcases hq:o6+j with _ | q
     ·rw [hq] at h8; simp at h8
     ·rw [hq] at h8; simp at h8
    ·rw [World.cell?_of_block (w:=wr) (Below.heap_setCell wr ⟨X+1,0,none⟩ _ b6 hbb)]
     exact h8
   ·injection e with e
    injection e with e
    have:=HB0.out.size
    omega
   ·obtain ⟨j,hj⟩:=List.mem_iff_getElem?.1 hx
    exact HOWN.out j x (by have:=(List.getElem?_eq_some_iff.1 hj).1; omega) hj q hq
  case pos =>
   have hln:li.length=n:=by have:=congrArg List.length HG.out.2.2.2.1; rw [dA,dA,← HN.out] at this; exact this
   obtain ⟨x,hx⟩:∃ x,li[i]? = some x:=⟨_,List.getElem?_eq_getElem (by omega)⟩
   have hxk:iA wr g x.2 x.1.kids:=HG.out.2.2.2.2 x (List.mem_of_getElem? hx)
   have hxl:x.1.kids.length≤1000000:=by
    have hg2:(gns li)[i]? = some x.1:=jl hx
    rw [HG.out.2.2.2.1] at hg2
    unfold gns at hg2
    rw [List.getElem?_map] at hg2
    cases hli:l[i]? with
    | none=>rw [hli] at hg2; cases hg2
    | some y =>
     rw [hli] at hg2
     injection hg2 with hg2
     rw [← hg2]
     exact HK.out y (List.mem_of_getElem? hli)
   have k4:wr.cell? ⟨g,i*5+4,none⟩=some x.2:=by
    obtain ⟨_,_,_,_,p4⟩:=nP li i x hx
    rw [HG.out.1.cell,← Array.getElem?_toList,← p4,← HG.out.2.1,List.getElem?_take,if_pos (by omega)]
   have g4:=HG.out.1.free (i*5+4)
   have lG:=HG.out.1.lt
   have hii:(i:Int)<(n:Int):=by omega
   have HXK:=Lib.hid hxk; have HX5:=Lib.hid hx
   obtain ⟨A3,c3,hxv,hc3,_⟩:=hxk
   have HXV:=Lib.hid hxv
   rw [hxv] at k4
   have HCL:=Lib.hid (fun W (hb:Below wr.heap.size wr W)=>by have h0:=Cw (HXK.out.below hb).out hxl; rw [HXV.out] at h0; exact h0)
   clear hxv hc3 hx
   go_upto_region 5 with fail
   refine wp_region_held_drew (S:=fun W=>W.cell? ⟨X,0,none⟩=some (.slice (some ⟨g,0,none⟩) n cap)) (by kernel_rfl) q0 (fun hS=>?_)
   refine wpAnyH_take (i:=0) (v:=.pointer (some ⟨X,0,none⟩)) rfl (by kernel_rfl) (by kernel_rfl) (by kernel_rfl) (fun _ _ _ h=>h) (Or.inl ⟨by rfl,?_⟩) hS ?_
   ·rintro W hW
    go_simp
   simp only [Act.put,List.setIfInBounds_toArray]
   refine wpAnyH_take (i:=1) (v:=.slice (some ⟨g,0,none⟩) n cap) rfl (by kernel_rfl) (by kernel_rfl) (by kernel_rfl) (fun _ _ _ h=>h) (Or.inl ⟨by rfl,?_⟩) hS ?_
   ·rintro W hW
    go_simp
   simp only [Act.put]
   refine wpAnyH_take (i:=2) (v:=.int .i64 i) rfl (by kernel_rfl) (by kernel_rfl) (by kernel_rfl) (fun _ _ _ h=>h) (Or.inl ⟨by rfl,?_⟩) hS ?_
   ·rintro W hW
    go_simp
   simp only [Act.put]
   refine wpAnyH_take (i:=3) (v:=.pointer (some ⟨X,0,none⟩)) rfl (by kernel_rfl) (by kernel_rfl) (by kernel_rfl) (fun _ _ _ h=>h) (Or.inl ⟨by rfl,?_⟩) hS ?_
   ·rintro W hW
    go_simp
   simp only [Act.put]
   refine wpAnyH_take (i:=4) (v:=.slice (some ⟨g,0,none⟩) n cap) rfl (by kernel_rfl) (by kernel_rfl) (by kernel_rfl) (fun _ _ _ h=>h) (Or.inl ⟨by rfl,?_⟩) hS ?_
   ·rintro W hW
    go_simp
   simp only [Act.put]
   refine wpAnyH_take (i:=5) (v:=.int .i64 i) rfl (by kernel_rfl) (by kernel_rfl) (by kernel_rfl) (fun _ _ _ h=>h) (Or.inl ⟨by rfl,?_⟩) hS ?_
   ·rintro W hW
    go_simp
   simp only [Act.put]
   refine wpAnyH_take (i:=6) (v:=.pointer (some ⟨g,i*5,none⟩)) rfl (by kernel_rfl) (by kernel_rfl) (by kernel_rfl) (fun _ _ _ h=>h) (Or.inl ⟨by rfl,?_⟩) hS ?_
   ·rintro W hW
    go_simp
   simp only [Act.put]
   refine wpAnyH_take (i:=7) (v:=.pointer (some ⟨g,i*5+4,none⟩)) rfl (by kernel_rfl) (by kernel_rfl) (by kernel_rfl) (fun _ _ _ h=>h) (Or.inl ⟨by rfl,?_⟩) hS ?_
   ·rintro W hW
    go_simp
   simp only [Act.put]
   refine wpAnyH_ready (rs:=[8]) (by kernel_rfl) (by simp) ?_
   refine AllReadyH.cons rfl (fun K hK=>?_) .nil
   have k4':wr.drew.cell? ⟨g,i*5+4,none⟩=some (.slice A3 x.1.kids.length c3):=k4
   go_simp
   refine hK.out _ _ hS (fun _=>?_)
   clear hK
   refine wpAnyH_ready (rs:=[9]) (by kernel_rfl) (by simp) ?_
   refine AllReadyH.cons rfl (fun K hK=>?_) .nil
   go_simp
   have hdr:Below wr.heap.size wr wr.drew:=(Below.refl _ _).drew
   refine (HCL.out _ hdr).mono ?_
   rintro e w4 ⟨v4,rfl,hv4,ho4,hb4⟩
   have HIV:Hid (iA w4 g v4 x.1.kids):=Lib.hid (hv4.far (fun q e=>by have h1:=ho4 q e; have h2:wr.drew.heap.size=wr.heap.size:=rfl; omega))
   obtain ⟨A4,c4,rfl,hc4,_⟩:=hv4
   have hb5:=ag hdr hb4
   have HB5:=Lib.hid hb5
   have k5:w4.cell? ⟨g,i*5+4,none⟩=some (.slice A3 x.1.kids.length c3):=(hb5.cell (p:=⟨g,_,none⟩) lG).trans k4
   have f5:=(HG.out.1.below hb5).free (i*5+4)
   have l5:=(HG.out.1.below hb5).lt
   have hS4:w4.cell? ⟨X,0,none⟩=some (.slice (some ⟨g,0,none⟩) n cap):=(HX.out.below hb5).cell 0
   refine hK.out _ _ hS4 (fun _=>?_)
   clear hK k4' k4
   refine wpAnyH_take (i:=10) (v:=.pointer (some ⟨g,i*5,none⟩)) rfl (by kernel_rfl) (by kernel_rfl) (by kernel_rfl) (fun _ _ _ h=>h) (Or.inl ⟨by rfl,?_⟩) hS4 ?_
   ·rintro W hW
    go_simp
   simp only [Act.put]
   refine wpAnyH_take (i:=11) (v:=.pointer (some ⟨g,i*5+4,none⟩)) rfl (by kernel_rfl) (by kernel_rfl) (by kernel_rfl) (fun _ _ _ h=>h) (Or.inl ⟨by rfl,?_⟩) hS4 ?_
   ·rintro W hW
    go_simp
   simp only [Act.put]
   refine wpAnyH_ready (rs:=[12]) (by kernel_rfl) (by simp) ?_
   refine AllReadyH.cons rfl (fun K hK=>?_) .nil
   go_simp
   have hS5:(w4.setCell ⟨g,i*5+4,none⟩ (.slice A4 x.1.kids.length c4)).cell? ⟨X,0,none⟩=some (.slice (some ⟨g,0,none⟩) n cap):=((HX.out.below hb5).far (Ne.symm hgX) _ _).cell 0
   refine hK.out _ _ hS5 (fun _=>?_)
   clear hK
   refine wpAnyH_done (by kernel_rfl) ?_ _
   have HBW5:Hid (Below w.heap.size w (w4.setCell ⟨g,i*5+4,none⟩ (.slice A4 x.1.kids.length c4))):=Lib.hid ((ag HB.out HB5.out).setCell (p:=⟨g,i*5+4,none⟩) (by show w.heap.size≤g; have:=HB0.out.size; omega) _)
   have HX5':Hid (Blk (w4.setCell ⟨g,i*5+4,none⟩ (.slice A4 x.1.kids.length c4)) X 24 #[.slice (some ⟨g,0,none⟩) n cap]):=Lib.hid ((HX.out.below hb5).far (Ne.symm hgX) _ _)
   have HY5':Hid (Blk (w4.setCell ⟨g,i*5+4,none⟩ (.slice A4 x.1.kids.length c4)) (X+1) 24 #[.slice none 0 0]):=Lib.hid ((HY.out.below hb5).far (Ne.symm hgY) _ _)
   have HG5:Hid (Blk (w4.setCell ⟨g,i*5+4,none⟩ (.slice A4 x.1.kids.length c4)) g 43 (cu.setIfInBounds (i*5+4) (.slice A4 x.1.kids.length c4))∧(cu.setIfInBounds (i*5+4) (.slice A4 x.1.kids.length c4)).toList.take (n*5)=eZ (li.set i (x.1,.slice A4 x.1.kids.length c4))∧n*5≤(cu.setIfInBounds (i*5+4) (.slice A4 x.1.kids.length c4)).size∧gns (li.set i (x.1,.slice A4 x.1.kids.length c4))=gns l∧(∀ y∈li.set i (x.1,.slice A4 x.1.kids.length c4),iA (w4.setCell ⟨g,i*5+4,none⟩ (.slice A4 x.1.kids.length c4)) g y.2 y.1.kids)):=Lib.hid (by
    obtain ⟨h1,h2,h3,h4,h6⟩:=HG.out
    refine⟨(h1.below hb5).put _ _,?_,by simpa using h3,by rw [IG _ HX5.out,h4],fun y hy=>?_⟩
    ·rw [xK _ _ _ _ HX5.out,← h2,Array.toList_setIfInBounds,List.take_set]
    ·rcases List.mem_or_eq_of_mem_set hy with hy | rfl
     ·exact ((h6 y hy).below HB5.out).put _ _
     ·exact HIV.out.put _ _)
   have HOWN5:Hid (∀ (j:Nat) (y:PV),j<i+1→(li.set i (x.1,.slice A4 x.1.kids.length c4))[j]? = some y→∀ q,y.2.ownBlock=some q→w.heap.size≤q):=Lib.hid (fun j y hj hy q hq=>by
    rw [List.getElem?_set] at hy
    split at hy
    ·split at hy
     ·injection hy with hy
      subst hy
      have h1:=ho4 q hq
      have h2:wr.drew.heap.size=wr.heap.size:=rfl
      have h3:=HB.out.size
      omega
     ·cases hy
    ·exact HOWN.out j y (by omega) hy q hq)
   clear hb4 hb5 hS hS4 hS5 k5 f5 l5 ho4 hc4 g4
   go_wp2_with fail
   cases gk with
   | zero=>omega
   | succ gk =>
    go_roundg gk
    case measure=>omega
    case rel=>exact⟨i+1,_,_,by omega,by omega,by simp,HG5,HX5',HY5',HBW5,HOWN5⟩
end Go.Proofs.YtkkeocnnecegbaaGreatDoor
namespace Go.Proofs.YtkkeocnnecegbaaGreatDoor
open Go.RowKit
def zF:Go.Shelf.Ren:=⟨fun | 212=>112 | 263=>157 | 264=>158 | n=>n,fun | 46=>177 | 51=>213 | 53=>106 | 146=>214 | 148=>216 | n=>n,fun | n=>n⟩
theorem Ip:Go.Proofs.Lays.n212 Tryz.prog zF:={
 mixed:=by kernel_rfl
 f212:=Tryz.func112.trans (congrArg some (by kernel_rfl))
 f263:=Tryz.func157.trans (congrArg some (by kernel_rfl))
 f264:=Tryz.func158.trans (congrArg some (by kernel_rfl))
 t46:=Tryz.underlying177
 a46:=Tryz.isAgg177
 z46:=Tryz.sizeOf177
 v46:=Tryz.zeroValue177
 t51:=Tryz.underlying213
 a51:=Tryz.isAgg213
 z51:=Tryz.sizeOf213
 v51:=Tryz.zeroValue213
 t53:=Tryz.underlying106
 a53:=Tryz.isAgg106
 z53:=Tryz.sizeOf106
 v53:=Tryz.zeroValue106
 t146:=Tryz.underlying214
 a146:=Tryz.isAgg214
 z146:=Tryz.sizeOf214
 v146:=Tryz.zeroValue214
 t148:=Tryz.underlying216
 a148:=Tryz.isAgg216
 z148:=Tryz.sizeOf216
 v148:=Tryz.zeroValue216 }
theorem Je (x y:Nat) (hx:x<18446744073709551616) (hy:y<18446744073709551616) (w:World) :
  Calls Tryz.prog 112 #[.int .u64 x,.int .u64 y] w fun e w'=>e=.returned (.tuple #[.int .u64 ((x*y / 18446744073709551616:Nat):Int),.int .u64 ((x*y % 18446744073709551616:Nat):Int)])∧w'=w:=Any.bits_Mul Ip x y hx hy w
end Go.Proofs.YtkkeocnnecegbaaGreatDoor
namespace Go.Proofs.YtkkeocnnecegbaaGreatDoor
open Go.RowKit
theorem Dg:(Tryz.prog.info? 3).map (·.size)=some 1:=by kernel_rfl
theorem rH (K n:Nat) (w:World) (hk:w.cell? ⟨K,0,none⟩=some (.int .i64 (-1))) (hn:0<n) (hl:n≤1000000) :
  Calls Tryz.prog 65 #[.slice (some ⟨K,0,none⟩) 1 1,.int .i64 n] w fun e w'=>∃ g,e=.returned (.slice (some ⟨g,0,none⟩) n n)∧w.heap.size≤g∧Blk w' g 3 ((List.replicate n (Value.int .i64 (-1)))).toArray∧Below w.heap.size w w':=by
 have lK:=aa hk
 have HM:=Lib.hid (Je 1 n (by omega) (by omega) w)
 have hlo:(1*n / 18446744073709551616:Nat)=0:=by omega
 have hhi:(1*n % 18446744073709551616:Nat)=n:=by omega
 rw [hlo,hhi] at HM
 have HK:=Lib.hid hk
 clear hlo hhi hk
 have hnn:¬ (n:Int)<0:=by omega
 go_enter Tryz.func65,Tryz.ntmps65
 go_wp2_with fail
 obtain ⟨i3,hi3,hz3,hy3,hw3⟩:=info_parts info3
 obtain ⟨Z,hZ⟩:∃ Z:List Value,Z.toArray=madeCells (Value.int .i64 0).cells (n*i3.size):=⟨(madeCells (Value.int .i64 0).cells (n*i3.size)).toList,by simp⟩
 have hZl:Z.length=n:=by
  have h1:Z.toArray.size=n*i3.size:=by rw [hZ,size_madeCells]
  rw [hy3,Nat.mul_one] at h1
  simpa using h1
 have hmk:∀ W:World,(Instr.makeSlice 41 (.int .i64 (n:Int)) (.int .i64 (n:Int))).run Tryz.prog W=.ok (.slice (some ⟨W.heap.size,0,none⟩) n n) (W.alloc (.cells Z.toArray 3)):=fun W=>by
  have h1:=run_makeSlice (P:=Tryz.prog) W 41 3 i3 (.int .i64 0) Tryz.underlying41 hi3 hz3 .i64 .i64 (n:Int) (n:Int) (by omega) (Int.le_refl _) (by rw [hy3,Int.toNat_natCast]; omega) (by rw [hw3]; omega) (by omega)
  rw [Int.toNat_natCast,← hZ] at h1
  exact h1
 have hbig:¬ (9223372036854775807:Int)<(n:Int):=by omega
 have HZ:=Lib.hid hZl
 clear hZ hZl hi3 hz3 hy3 hw3
 refine HM.out.mono ?_
 rintro e w1 ⟨rfl,rfl⟩
 go_upto_region 7 with fail
 have hb2:Below w1.heap.size w1 (w1.alloc (.cells Z.toArray 3)):=(Below.refl _ _).alloc (Nat.le_refl _) _
 have HG:Hid ((w1.alloc (.cells Z.toArray 3)).heap[w1.heap.size]? = some (.cells Z.toArray 3 (0,0))):=Lib.hid (Blk.new w1 3 Z.toArray)
 have HB2:=Lib.hid hb2
 have k0:(w1.alloc (.cells Z.toArray 3)).cell? ⟨K,0,none⟩=some (.int .i64 (-1)):=(hb2.cell (p:=⟨K,0,none⟩) lK).trans HK.out
 have K0:=Lib.hid k0
 obtain ⟨g,hg⟩:∃ g,g=w1.heap.size:=⟨_,rfl⟩
 have hgw:w1.heap.size≤g:=by omega
 rw [← hg] at HG ⊢
 clear hb2 hg k0 hmk
 generalize w1.alloc (.cells Z.toArray 3)=w2 at *
 go_wp2_with (refine wpList_copy_splice (o:=⟨some 33,_,_,_,_,_⟩) rfl (.tmp 31) (.tmp 32) 41 41 rfl 3 Tryz.underlying41 Dg (some ⟨g,0,none⟩) (some ⟨K,0,none⟩) n n 1 1 rfl rfl g 0 Z 3 HG.out [.int .i64 (-1)] (by show 1=min 1 n; omega) (fun _=>⟨rfl,⟨K,0,none⟩,rfl,fun j v hj=>by cases j with | zero=>simp at hj; subst hj; exact K0.out | succ j=>simp at hj⟩) (by have:=HZ.out; simp only [List.length_singleton]; omega) (by simp [Value.oneCell']) w1.heap.size w1 HB2.out hgw ?_; intro w3 hg3 hb3)
 have HB3:=Lib.hid hb3
 clear hb3 HG HB2
 go_wp2_with fail
 have hZn:=HZ.out
 go_loopg [8] n (fun gk v wr=>∃ (m:Nat) (cu:List Value),1≤m∧m≤n∧n - m≤gk∧v=.int .i64 m∧Hid (wr.heap[g]? = some (.cells cu.toArray 3 (0,0))∧cu.length=n∧∀ j,j<m→cu[j]? = some (.int .i64 (-1)))∧Hid (Below w1.heap.size w1 wr))
 case atStart=>exact⟨1,splice Z 0 [.int .i64 (-1)],Nat.le_refl _,by omega,by omega,rfl,Lib.hid ⟨hg3.out,by rw [length_splice _ _ _ (by simp only [List.length_singleton]; omega)]; exact hZn,fun j hj=>by
  obtain rfl:j=0:=by omega
  simp [splice]⟩,HB3⟩
 case round =>
  obtain ⟨m,cu,h1,hm,hgk,rfl,HC,HB⟩:=hrel
  by_cases hlt:m<n
  case neg =>
   have hmn:m=n:=by omega
   subst hmn
   go_wp2_with fail
   go_ret
   obtain ⟨c1,c2,c3⟩:=HC.out
   refine⟨g,rfl,hgw,?_,HB.out⟩
   have:cu=List.replicate m (.int .i64 (-1)):=by
    apply List.ext_getElem?
    intro j
    by_cases hj:j<m
    ·rw [c3 j hj,List.getElem?_replicate,if_pos hj]
    ·rw [List.getElem?_eq_none (by omega),List.getElem?_eq_none (by simp; omega)]
   rw [← this]; exact c1
  case pos =>
   have hmi:(m:Int)<(n:Int):=by omega
   have hm0:(0:Int)≤(m:Int):=by omega
   have hm1:(m:Int)≤(n:Int):=by omega
   have hmne:¬ n - m=0:=by omega
   go_upto_region 9 with fail
   obtain ⟨k,hk⟩:∃ k,k=min m (n - m):=⟨_,rfl⟩
   have hk1:1≤k:=by omega
   have hk2:m+k≤n:=by omega
   have hkm:k≤m:=by omega
   obtain ⟨cs,hcs⟩:∃ cs,cs=List.replicate k (Value.int .i64 (-1)):=⟨_,rfl⟩
   have hcl:cs.length=k:=by rw [hcs]; simp
   have HN:Hid (∀ j v,cs[j]? = some v→wr.cell? ((⟨g,0,none⟩:Addr).add j)=some v):=Lib.hid (fun j v hj=>by
    rw [hcs,List.getElem?_replicate] at hj
    by_cases hjk:j<k
    ·rw [if_pos hjk] at hj
     injection hj with hj
     subst hj
     have hadd:(⟨g,0,none⟩:Addr).add j=⟨g,j,none⟩:=by unfold Addr.add; split <;> simp_all
     rw [hadd,(show Blk wr g 3 cu.toArray from HC.out.1).cell]
     have:=HC.out.2.2 j (by omega)
     simpa using this
    ·rw [if_neg hjk] at hj; cases hj)
   have HO:Hid (∀ v∈cs,v.oneCell'=true):=Lib.hid (fun v hv=>by rw [hcs] at hv; rw [List.eq_of_mem_replicate hv]; rfl)
   have HFIT:Hid (m+cs.length≤cu.length):=Lib.hid (by rw [hcl,HC.out.2.1]; exact hk2)
   have HMIN:Hid (cs.length=Nat.min m (n - m)):=Lib.hid (by rw [hcl,hk])
   have HCS:=Lib.hid hcs; have HCL:=Lib.hid hcl; have HKK:=Lib.hid hk
   clear hcs hcl hk
   refine wp_region_held_drew (S:=fun _=>True) (by kernel_rfl) trivial (fun hS=>?_)
   have hnm:¬ n=m:=by omega
   refine aJ [(0,some 38,.int .i64 m),(1,some 39,.slice (some ⟨g,0,none⟩) n n),(2,some 40,.int .i64 m),(3,some 41,.slice (some ⟨g,m,none⟩) (n - m) (n - m)),(4,some 42,.slice (some ⟨g,0,none⟩) n n),(5,some 43,.int .i64 m),(6,some 44,.slice (some ⟨g,0,none⟩) m n)] 3 (by kernel_rfl) (fun _ _ _ _ _ h=>h) (by kernel_rfl) (by kernel_rfl) hS ?_
   intro F hF
   have f7:F.tmps[7]? = some (.slice (some ⟨g,0,none⟩) n n):=by rw [hF]; kernel_rfl
   have f8:F.tmps[8]? = some (.int .i64 m):=by rw [hF]; kernel_rfl
   have f38:F.tmps[38]? = some (.int .i64 m):=by rw [hF]; kernel_rfl
   have f39:F.tmps[39]? = some (.slice (some ⟨g,0,none⟩) n n):=by rw [hF]; kernel_rfl
   have f40:F.tmps[40]? = some (.int .i64 m):=by rw [hF]; kernel_rfl
   have f41:F.tmps[41]? = some (.slice (some ⟨g,m,none⟩) (n - m) (n - m)):=by rw [hF]; kernel_rfl
   have f42:F.tmps[42]? = some (.slice (some ⟨g,0,none⟩) n n):=by rw [hF]; kernel_rfl
   have f43:F.tmps[43]? = some (.int .i64 m):=by rw [hF]; kernel_rfl
   have f44:F.tmps[44]? = some (.slice (some ⟨g,0,none⟩) m n):=by rw [hF]; kernel_rfl
   have HFF:=Lib.hid hF
   clear hF
   refine⟨?_,?_⟩
   ·iterate 7 (refine ai.cons _ rfl (Or.inl ⟨by rfl,fun W hW=>by go_simp⟩) ?_)
    exact ai.nil
   ·refine bN 7 (some 45) rfl (by kernel_rfl) (by kernel_rfl) (fun KK hK=>?_)
    refine step_copy_splice rfl (.tmp 41) (.tmp 44) 41 41 rfl 3 Tryz.underlying41 Dg (some ⟨g,m,none⟩) (some ⟨g,0,none⟩) (n - m) (n - m) m n ?_ ?_ g m cu 3 HC.out.1 cs HMIN.out (fun _=>⟨rfl,⟨g,0,none⟩,rfl,HN.out⟩) HFIT.out HO.out w1.heap.size w1 HB.out.drew hgw ?_
    ·go_simp
    ·go_simp
    ·intro w4 hg4 hb4
     refine hK.out _ _ hS ?_
     clear hK f7 f8 f38 f39 f40 f41 f42 f43 f44
     have hcl:=HCL.out
     refine aJ [(8,some 46,.int .i64 ((m+k:Nat):Int)),(9,some 8,.int .i64 ((m+k:Nat):Int))] 0 (by kernel_rfl) (fun _ _ _ _ _ h=>h) (by kernel_rfl) (by kernel_rfl) hS ?_
     intro F2 hF2
     have f38:F2.tmps[38]? = some (.int .i64 m):=by rw [hF2,HFF.out]; kernel_rfl
     have f45:F2.tmps[45]? = some (.int .i64 k):=by rw [hF2,HFF.out,← hcl]; kernel_rfl
     have f46:F2.tmps[46]? = some (.int .i64 ((m+k:Nat):Int)):=by rw [hF2,HFF.out]; kernel_rfl
     have HF2:=Lib.hid hF2
     clear hF2 hcl
     refine⟨?_,?_⟩
     ·have hwr:IntKind.i64.wrap ((m:Int)+(k:Int))=((m+k:Nat):Int):=by rw [IntKind.wrap_i64] <;> omega
      refine ai.cons _ rfl (Or.inl ⟨by rfl,fun W hW=>by go_simp⟩) ?_
      refine ai.cons _ rfl (Or.inl ⟨by rfl,fun W hW=>by go_simp⟩) ?_
      exact ai.nil
     refine wpAnyH_done (by kernel_rfl) ?_ _
     clear f38 f45 f46
     rw [HF2.out,HFF.out]
     simp only [putD,Act.put,List.setIfInBounds_toArray,List.set_cons_zero,List.set_cons_succ]
     clear HFF HF2
     obtain ⟨cu2,hcu2⟩:∃ cu2,cu2=splice cu m cs:=⟨_,rfl⟩
     rw [← hcu2] at hg4
     have HC2:Hid (w4.heap[g]? = some (.cells cu2.toArray 3 (0,0))∧cu2.length=n∧∀ j,j<m+k→cu2[j]? = some (.int .i64 (-1))):=Lib.hid ⟨hg4.out,by rw [hcu2,length_splice _ _ _ HFIT.out]; exact HC.out.2.1,fun j hj=>by
      have h1:=HC.out.2.2 j
      have h3:=HFIT.out
      rw [hcu2]
      unfold splice
      rw [HCS.out] at h3 ⊢
      simp only [List.length_replicate] at h3 ⊢
      by_cases hjm:j<m
      ·rw [List.getElem?_append_left (by simp; omega),List.getElem?_take,if_pos hjm]; exact h1 hjm
      ·rw [List.getElem?_append_right (by simp; omega),List.getElem?_append_left (by simp; omega),List.getElem?_replicate,if_pos (by simp; omega)]⟩
     have HB4:=Lib.hid hb4
     clear hb4 hg4 hcu2
     go_wp2_with fail
     cases gk with
     | zero=>omega
     | succ gk =>
      go_roundg gk
      case measure=>omega
      case rel=>exact⟨m+k,cu2,by omega,by omega,by omega,rfl,HC2,HB4⟩
end Go.Proofs.YtkkeocnnecegbaaGreatDoor
namespace Go.Proofs.YtkkeocnnecegbaaGreatDoor
open Go.RowKit Go.Extern.Stop Go.Stop Go.Extern
theorem J3 (t:Value) (w:World) :
  Calls Tryz.prog 67 #[.nilIface,t] w fun e w'=>e=.returned (.bool false)∧w'=w:=by
 go_enter Tryz.func67,Tryz.ntmps67
 go_wp2_with fail
 go_ret
 exact⟨rfl,rfl⟩
theorem xB (t:Addr) (w:World):(ReflectliteValue.unpack (.iface 123 (.pointer (some t)))).run Tryz.prog w
  = .ok (.agg #[.pointer (some ⟨9,123,none⟩),.pointer (some ⟨w.heap.size,0,none⟩),.int .u64 150]) (w.alloc (.cells #[.pointer (some t)] 123)):=by kernel_rfl
theorem Da (a:Addr) (w:World):(ReflectliteValue.methodAny (ReflectliteValue.valueError "reflectlite.Value.Type" 0) (fun t _ _ _=>ReflectliteType.toType t) #[.agg #[.pointer (some ⟨9,123,none⟩),.pointer (some a),.int .u64 150]]).run Tryz.prog w
  = .ok (.iface 223 (.agg #[.pointer (some ⟨9,123,none⟩)])) w:=by kernel_rfl
theorem oM (h:Value) (w:World):(Go.method 430 223 (.agg #[h]) "Kind").run Tryz.prog w=.ok (264,h) w:=by kernel_rfl
theorem EA (w:World):((ReflectliteType.abiMethod fun t=>(fun a:Nat=>Value.int IntKind.u8 (a:Int)) <$> Rtype.kind t) #[.pointer (some ⟨9,123,none⟩)]).run Tryz.prog w=.ok (.int .u8 22) w:=by kernel_rfl
theorem DI (w:World):((ReflectliteType.abiMethod fun t=>(fun a:Nat=>Value.int IntKind.u8 (a:Int)) <$> Rtype.kind t) #[.pointer (some ⟨9,121,none⟩)]).run Tryz.prog w=.ok (.int .u8 22) w:=by kernel_rfl
theorem rlm (z:Sem Value) (f:TypeId→Addr→Nat→Nat→Sem Value) (v:Value) :
  ReflectliteValue.method z f #[v]=(do match ← ReflectliteValue.parts v with | none=>z | some (t,a,fl)=>f t a fl (fl % 32)):=rfl
theorem sF (a:Addr) (w:World):(ReflectliteValue.parts (.agg #[.pointer (some ⟨9,123,none⟩),.pointer (some a),.int .u64 150])).run Tryz.prog w=.ok (some (123,a,150)) w:=by kernel_rfl
theorem Bu (a p:Addr) (W:World) (ha:W.cell? a=some (.pointer (some p))) :
  (ReflectliteValue.method (ReflectliteValue.valueError "reflectlite.Value.IsNil" 0) ReflectliteValue.isNil #[.agg #[.pointer (some ⟨9,123,none⟩),.pointer (some a),.int .u64 150]]).run Tryz.prog W=.ok (.bool false) W:=by
 rw [rlm]
 simp only [Sem.run_bind,sF,Result.andThen]
 simp [ReflectliteValue.isNil,loadVar,isAgg,underlying,Tryz.underlying123,ha,Result.andThen]
theorem oO (h:Value) (w:World):(Go.method 430 223 (.agg #[h]) "Elem").run Tryz.prog w=.ok (279,.agg #[h]) w:=by kernel_rfl
theorem ku (h:Value) (w:World):(Go.method 430 223 (.agg #[h]) "Implements").run Tryz.prog w=.ok (280,.agg #[h]) w:=by kernel_rfl
theorem jP (h:Value) (w:World):(Go.method 430 223 (.agg #[h]) "AssignableTo").run Tryz.prog w=.ok (277,.agg #[h]) w:=by kernel_rfl
theorem En (w:World):(ReflectliteType.method ReflectliteType.elem #[.agg #[.pointer (some ⟨9,123,none⟩)]]).run Tryz.prog w=.ok (.iface 223 (.agg #[.pointer (some ⟨9,121,none⟩)])) w:=by kernel_rfl
theorem rA (w:World):(ReflectliteType.relation "Implements" ReflectliteType.implements_ #[.agg #[.pointer (some ⟨9,121,none⟩)],.iface 223 (.agg #[.pointer (some ⟨9,108,none⟩)])]).run Tryz.prog w=.ok (.bool true) w:=by kernel_rfl
theorem qE (v:Value) (w:World):(ReflectliteType.typeOf #[.iface 121 v]).run Tryz.prog w=.ok (.iface 223 (.agg #[.pointer (some ⟨9,121,none⟩)])) w:=by kernel_rfl
theorem sO (w:World):(ReflectliteType.relation "AssignableTo" ReflectliteType.assignableTo #[.agg #[.pointer (some ⟨9,121,none⟩)],.iface 223 (.agg #[.pointer (some ⟨9,121,none⟩)])]).run Tryz.prog w=.ok (.bool true) w:=by kernel_rfl
theorem yo (e:Addr) (w:World):(ReflectliteValue.unpack (.iface 121 (.pointer (some e)))).run Tryz.prog w
  = .ok (.agg #[.pointer (some ⟨9,121,none⟩),.pointer (some ⟨w.heap.size,0,none⟩),.int .u64 150]) (w.alloc (.cells #[.pointer (some e)] 121)):=by kernel_rfl
theorem y9 (w:World):(Rtype.elem? 123).run Tryz.prog w=.ok (some 121) w:=by kernel_rfl
theorem Jj (p:Addr) (w:World):(ReflectliteValue.mk 121 p ReflectliteValue.flagAddr).run Tryz.prog w=.ok (.agg #[.pointer (some ⟨9,121,none⟩),.pointer (some p),.int .u64 406]) w:=by kernel_rfl
theorem A8 (a p:Addr) (W:World) (ha:W.cell? a=some (.pointer (some p))) :
  (ReflectliteValue.method (ReflectliteValue.valueError "reflectlite.Value.Elem" 0) ReflectliteValue.elem #[.agg #[.pointer (some ⟨9,123,none⟩),.pointer (some a),.int .u64 150]]).run Tryz.prog W
   = .ok (.agg #[.pointer (some ⟨9,121,none⟩),.pointer (some p),.int .u64 406]) W:=by
 rw [rlm]
 simp only [Sem.run_bind,sF,Result.andThen]
 simp [ReflectliteValue.elem,loadVar,isAgg,underlying,Tryz.underlying123,ha,Result.andThen,y9,Jj]
theorem rls (v x:Value):ReflectliteValue.set #[v,x]=(do
  let (some (dst,a,fl),some (src,b,_)):=(← ReflectliteValue.parts v,← ReflectliteValue.parts x)
   | unsupported (.noEntry "extern/(internal/reflectlite.Value).Set.zeroValue")
  if fl / ReflectliteValue.flagAddr % 2 == 0 then unsupported (.noEntry "extern/(internal/reflectlite.Value).Set.unaddressable")
  let val ← loadVar src b
  if ← Rtype.directlyAssignable dst src then storeVar dst a val
  else if ← Rtype.implements dst src then
   if (← Rtype.kind src) == 20 then
    match val with
    | .nilIface=>unsupported (.noEntry "extern/reflectlite: a nil value of one interface type handed on as a value of another")
    | _=>storeVar dst a val
   else storeVar dst a (.iface src val)
  else panicString ("reflectlite.Set: value of type " ++ (← Rtype.spelt src) ++ " is not assignable to type " ++ (← Rtype.spelt dst))
  pure (.tuple #[])):=rfl
theorem yK (a:Addr) (w:World):(ReflectliteValue.parts (.agg #[.pointer (some ⟨9,121,none⟩),.pointer (some a),.int .u64 406])).run Tryz.prog w=.ok (some (121,a,406)) w:=by kernel_rfl
theorem Bn (a:Addr) (w:World):(ReflectliteValue.parts (.agg #[.pointer (some ⟨9,121,none⟩),.pointer (some a),.int .u64 150])).run Tryz.prog w=.ok (some (121,a,150)) w:=by kernel_rfl
theorem yH (w:World):(Rtype.directlyAssignable 121 121).run Tryz.prog w=.ok true w:=by kernel_rfl
theorem Fe (ta b e:Addr) (old:Value) (W:World) (hb:W.cell? b=some (.pointer (some e))) (ht:W.cell? ta=some old) (hf:W.frozen? ta=false) :
  (ReflectliteValue.set #[.agg #[.pointer (some ⟨9,121,none⟩),.pointer (some ta),.int .u64 406],.agg #[.pointer (some ⟨9,121,none⟩),.pointer (some b),.int .u64 150]]).run Tryz.prog W
   = .ok (.tuple #[]) (W.setCell ta (.pointer (some e))):=by
 rw [rls]
 simp only [Sem.run_bind,yK,Bn,Result.andThen]
 simp [ReflectliteValue.flagAddr,loadVar,isAgg,underlying,Tryz.underlying121,hb,Result.andThen,yH,storeVar,Value.cells,storeCells,Addr.add]
 rw [run_store Tryz.prog W ta _ _ (by rfl)]
 simp [ht,hf]
abbrev rt (ty:Nat):Value:=.iface 223 (.agg #[.pointer (some ⟨9,ty,none⟩)])
theorem Jn (e t a:Addr) (old:Value) (w:World) (ha:w.cell? a=some (.pointer (some t))) (ht0:w.cell? t=some old) (hf0:w.frozen? t=false) :
  Calls Tryz.prog 119 #[.iface 121 (.pointer (some e)),.iface 123 (.pointer (some t)),.agg #[.pointer (some ⟨9,123,none⟩),.pointer (some a),.int .u64 150],.iface 223 (.agg #[.pointer (some ⟨9,121,none⟩)])] w fun ev w'=>ev=.returned (.bool true)∧w'=((w.alloc (.cells #[.pointer (some ⟨9,123,none⟩),.pointer (some a),.int .u64 150] 185)).alloc (.cells #[.pointer (some e)] 121)).setCell t (.pointer (some e)):=by
 have h6:=@run_callFunc_extern Tryz.prog 116 _ (fun args=>ReflectliteValue.unpack (args.getD 0 (.tuple #[]))) Tryz.func116 (by kernel_rfl) (by kernel_rfl) (by kernel_rfl) (by kernel_rfl)
 have h10:=@run_callFunc_extern Tryz.prog 165 _ ReflectliteType.typeOf Tryz.func165 (by kernel_rfl) (by kernel_rfl) (by kernel_rfl) (by kernel_rfl)
 have h35:=@run_callFunc_extern Tryz.prog 277 _ (ReflectliteType.relation "AssignableTo" ReflectliteType.assignableTo) Tryz.func277 (by kernel_rfl) (by kernel_rfl) (by kernel_rfl) (by kernel_rfl)
 have h11:=@run_callFunc_extern Tryz.prog 166 _ (ReflectliteValue.method (ReflectliteValue.valueError "reflectlite.Value.Elem" 0) ReflectliteValue.elem) Tryz.func166 (by kernel_rfl) (by kernel_rfl) (by kernel_rfl) (by kernel_rfl)
 have h12:=@run_callFunc_extern Tryz.prog 167 _ ReflectliteValue.set Tryz.func167 (by kernel_rfl) (by kernel_rfl) (by kernel_rfl) (by kernel_rfl)
 have tO:=qE
 have mA:=jP
 have a25:=sO
 have v25:=yo
 have htl:t.block<w.heap.size:=by
  rcases Nat.lt_or_ge t.block w.heap.size with h | h
  ·exact h
  ·simp [World.cell?,Array.getElem?_eq_none h] at ht0
 have hal:a.block<w.heap.size:=by
  rcases Nat.lt_or_ge a.block w.heap.size with h | h
  ·exact h
  ·simp [World.cell?,Array.getElem?_eq_none h] at ha
 have el:=A8 a t (w.alloc (.cells #[.pointer (some ⟨9,123,none⟩),.pointer (some a),.int .u64 150] 185)) (by rw [World.cell?_alloc_lt _ _ a hal]; exact ha)
 have st:=Fe t ⟨w.heap.size+1,0,none⟩ e old ((w.alloc (.cells #[.pointer (some ⟨9,123,none⟩),.pointer (some a),.int .u64 150] 185)).alloc (.cells #[.pointer (some e)] 121))
  (by rw [World.cell?_alloc_at _ _ _ _ (by simp)]; rfl)
  (by rw [World.cell?_alloc_lt _ _ t (by simp; omega),World.cell?_alloc_lt _ _ t htl]; exact ht0)
  (by rw [World.frozen?_alloc_old _ _ t (by simp; omega),World.frozen?_alloc_old _ _ t (Nat.ne_of_lt htl)]; exact hf0)
 go_enter Tryz.func119,Tryz.ntmps119
 go_wp2_with fail
 refine wp_loop_rounds 1 ?_
 rw [rounds_succ]
 go_wp2_with fail
 go_ret
 exact⟨rfl,rfl⟩
end Go.Proofs.YtkkeocnnecegbaaGreatDoor
