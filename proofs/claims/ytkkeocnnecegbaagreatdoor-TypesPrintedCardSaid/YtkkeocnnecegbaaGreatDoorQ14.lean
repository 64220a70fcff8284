/- Joint text: PwP, PwQ, PwR. By an AI agent. -/
import Derived.Test.YtkkeocnnecegbaaGreatDoorQ13
set_option linter.all false
set_option maxRecDepth 100000
set_option maxHeartbeats 64000000
namespace Go.Proofs.YtkkeocnnecegbaaGreatDoor
open Go.RowKit
theorem Gc (args:Array Value) (W:World):(callFunc 180 args).run Tryz.prog W=.ok (.enter 180 args) W:=by kernel_rfl
theorem H8 (args:Array Value) (W:World):(callFunc 181 args).run Tryz.prog W=.ok (.enter 181 args) W:=by kernel_rfl
theorem E9 (args:Array Value) (W:World):(callFunc 182 args).run Tryz.prog W=.ok (.enter 182 args) W:=by kernel_rfl
theorem qJ (args:Array Value) (W:World):(callFunc 183 args).run Tryz.prog W=.ok (.enter 183 args) W:=by kernel_rfl
theorem EZ (args:Array Value) (W:World):(callFunc 184 args).run Tryz.prog W=.ok (.enter 184 args) W:=by kernel_rfl
theorem FO (args:Array Value) (W:World):(callFunc 185 args).run Tryz.prog W=.ok (.enter 185 args) W:=by kernel_rfl
theorem oW (f d:Nat) (ts:List Tok):aZ (f+1) d ts=if aG ts=0 then bH f d ts
  else if aG ts=6 then bS f d (nowAt ts) ts.tail
  else if aG ts=9 then bI f d (nowAt ts) ts.tail
  else if aG ts=10 then fw f d (nowAt ts) ts.tail
  else if aG ts=14 then fC (nowAt ts) ts.tail
  else if aG ts=15 then callS f d (nowAt ts) ts.tail
  else kZ (fun x=>.mk (aG ts) [] 0 (nowAt ts) [x]) (bA f d ts.tail):=by
 conv=>lhs; unfold aZ
 split
 ·rfl
 split
 ·rfl
 split
 ·rfl
 split
 ·rfl
 split
 ·rfl
 split
 ·rfl
 cases bA f d ts.tail <;> rfl
theorem wI:∀ (N R T:Nat),T≤90000 →
  (∀ f,f≤N→∀ d ts w,RD w R ts d→d≤64→ts.length≤T→aH f d ts≠.error aI→Calls Tryz.prog 95 #[.pointer (some ⟨R,0,none⟩)] w (aX w R d (aH f d ts))) ∧
  (∀ f,f≤N→∀ d ts w,RD w R ts d→d≤64→ts.length≤T→aZ f d ts≠.error aI→Calls Tryz.prog 146 #[.pointer (some ⟨R,0,none⟩)] w (aX w R d (aZ f d ts)))
 | 0,R,T,_=>by
  refine⟨fun f hf d ts w _ _ _ hne=>?_,fun f hf d ts w _ _ _ hne=>?_⟩
  ·obtain rfl:f=0:=by omega
   exact absurd (by unfold aH; rfl) hne
  ·obtain rfl:f=0:=by omega
   exact absurd (by unfold aZ; rfl) hne
 | N+1,R,T,hT=>by
  obtain ⟨hb,hs⟩:=wI N R T hT
  refine⟨fun f hf d ts w hr hd hl hne=>?_,fun f hf d ts w hr hd hl hne=>?_⟩
  ·cases f with
   | zero=>exact absurd (by unfold aH; rfl) hne
   | succ f=>exact block_step f R d T ts w hr hd hl (by omega) (fun g hg W ts' hW hd' hl' hn=>hs g (by omega) (d+1) ts' W hW hd' hl' hn) hne
  ·cases f with
   | zero=>exact absurd (by unfold aZ; rfl) hne
   | succ f =>
    obtain ⟨t,r,rfl⟩:=hr.fin.cons
    have asg:aG (t :: r)=0→∀ W X,RD W R (t :: r) d→R<X→Blk W X 160 #[.int .u8 (7:Nat),.string ⟨([]:List UInt8).toArray⟩,.int .i64 0,.int .i64 t.at',.slice none 0 0,.slice none 0 0]→Calls Tryz.prog 186 #[.pointer (some ⟨R,0,none⟩),.pointer (some ⟨X,0,none⟩)] W (OutB X W R d (aZ (f+1) d (t :: r)) (jS X)):=by
     intro h0 W X hW hX hx
     have e:aZ (f+1) d (t :: r)=bH f d (t :: r):=by rw [oW,if_pos h0]
     rw [e] at hne ⊢
     by_cases hk:t.kind=1
     ·exact assign_name f R d X t r W hW hx hX hk hd hne
     ·exact vW f R d X t.at' (t :: r) W hW hx hX hk
    rcases Br t.text with ⟨h1,h2⟩ | ⟨kd,fn,h1,h2,h3⟩
    ·exact CZ R d t r _ w hr h1 (asg (by unfold aG; split <;> simp [bT,h2]))
    ·by_cases hk:t.kind=2
     ·have hwk:aG (t :: r)=kd:=by unfold aG; rw [if_pos (show aj (t :: r)=2 from hk)]; simp [bT,h2]
      have hrl:r.length≤T:=by simp only [List.length_cons] at hl; omega
      have hu:=oW f d (t :: r)
      rw [hwk] at hu
      simp only [List.mem_cons,Prod.mk.injEq,List.not_mem_nil,or_false] at h3
      rcases h3 with ⟨rfl,rfl⟩ | ⟨rfl,rfl⟩ | ⟨rfl,rfl⟩ | ⟨rfl,rfl⟩ | ⟨rfl,rfl⟩ | ⟨rfl,rfl⟩ | ⟨rfl,rfl⟩ | ⟨rfl,rfl⟩
      ·have e:aZ (f+1) d (t :: r)=bS f d t.at' r:=by rw [hu]; rfl
       rw [e] at hne ⊢
       exact ik R d 6 180 t r _ w hr hk h1 Gc (fun W X hW hX hx=>(yQ f R d X _ _ t.at' r W hW (aO.fresh hx) hX hd hne).mono (fun _ _ h=>h.imp (fun _ _ h=>h.toS)))
      ·have e:aZ (f+1) d (t :: r)=bI f d t.at' r:=by rw [hu]; rfl
       rw [e] at hne ⊢
       cases f with
       | zero=>exact absurd (by unfold bI; rfl) hne
       | succ f=>exact ik R d 9 181 t r _ w hr hk h1 H8 (fun W X hW hX hx=>(Av f R d X _ _ t.at' T r W hW (aO.fresh hx) hX hd hrl (fun W' ts' hW' hl' hn=>hb f (by omega) d ts' W' hW' hd hl' hn) hne).mono (fun _ _ h=>h.imp (fun _ _ h=>h.toS)))
      ·have e:aZ (f+1) d (t :: r)=fw f d t.at' r:=by rw [hu]; rfl
       rw [e] at hne ⊢
       cases f with
       | zero=>exact absurd (by unfold fw; rfl) hne
       | succ f=>exact ik R d 10 182 t r _ w hr hk h1 E9 (fun W X hW hX hx=>(loop_any f R d X _ _ t.at' T r W hW (aO.fresh hx) hX hd hrl (fun W' ts' hW' hl' hn=>hb f (by omega) d ts' W' hW' hd hl' hn) hne).mono (fun _ _ h=>h.imp (fun _ _ h=>h.toS)))
      ·have e:aZ (f+1) d (t :: r)=kZ (fun x=>.mk 11 [] 0 t.at' [x]) (bA f d r):=by rw [hu]; rfl
       rw [e] at hne ⊢
       exact ik R d 11 183 t r _ w hr hk h1 qJ (fun W X hW hX hx=>(ends_any f R d X _ _ 11 t.at' [] 0 [] r W hW (aO.fresh hx) hX hd (by simp) (fun hc=>hne (by rw [hc]; rfl))).mono (fun _ _ h=>h.imp (fun _ _ h=>h.toS)))
      ·have e:aZ (f+1) d (t :: r)=kZ (fun x=>.mk 12 [] 0 t.at' [x]) (bA f d r):=by rw [hu]; rfl
       rw [e] at hne ⊢
       exact ik R d 12 183 t r _ w hr hk h1 qJ (fun W X hW hX hx=>(ends_any f R d X _ _ 12 t.at' [] 0 [] r W hW (aO.fresh hx) hX hd (by simp) (fun hc=>hne (by rw [hc]; rfl))).mono (fun _ _ h=>h.imp (fun _ _ h=>h.toS)))
      ·have e:aZ (f+1) d (t :: r)=kZ (fun x=>.mk 13 [] 0 t.at' [x]) (bA f d r):=by rw [hu]; rfl
       rw [e] at hne ⊢
       exact ik R d 13 183 t r _ w hr hk h1 qJ (fun W X hW hX hx=>(ends_any f R d X _ _ 13 t.at' [] 0 [] r W hW (aO.fresh hx) hX hd (by simp) (fun hc=>hne (by rw [hc]; rfl))).mono (fun _ _ h=>h.imp (fun _ _ h=>h.toS)))
      ·have e:aZ (f+1) d (t :: r)=fC t.at' r:=by rw [hu]; rfl
       rw [e]
       exact ik R d 14 184 t r _ w hr hk h1 EZ (fun W X hW hX hx=>(EJ R d X _ _ t.at' r W hW (aO.fresh hx) hX).mono (fun _ _ h=>h.imp (fun _ _ h=>h.toS)))
      ·have e:aZ (f+1) d (t :: r)=callS f d t.at' r:=by rw [hu]; rfl
       rw [e] at hne ⊢
       refine ik R d 15 185 t r _ w hr hk h1 FO (fun W X hW hX hx=>?_)
       obtain ⟨t',r',rfl⟩:=hW.fin.cons
       by_cases hk':t'.kind=1
       ·exact call_name f R d X t.at' T t' r' W hW hx hX hk' hd hrl hT hne
       ·exact yX f R d X t.at' (t' :: r') W hW hx hX hk'
     ·exact DC R d kd fn t r _ w hr hk h1 (asg (by unfold aG; rw [if_neg (show ¬ aj (t :: r)=2 from hk)]))
end Go.Proofs.YtkkeocnnecegbaaGreatDoor
namespace Go.Proofs.YtkkeocnnecegbaaGreatDoor
open Go.RowKit
theorem kr {x:List UInt8} {t:Tok} {r:List Tok} (h:isT x (t :: r)=false):af x (t :: r)=.error (t.at',140):=by unfold af; rw [h]; rfl
theorem jq {x:List UInt8} {t:Tok} {r:List Tok} (h:isT x (t :: r)=true):af x (t :: r)=.ok r:=by unfold af; rw [h]; rfl
theorem nA {t:Tok} {r:List Tok} (h:t.kind=1):aM (t :: r)=.ok (t.text,r):=by unfold aM; rw [if_pos (show aj (t :: r)=1 from h)]; rfl
theorem oD {t:Tok} {r:List Tok} (h:t.kind≠1):aM (t :: r)=.error (t.at',140):=by unfold aM; rw [if_neg (show ¬ aj (t :: r)=1 from h)]; rfl
def pR (ts:List Tok):Except aY (Int×List Tok):=if aj ts=3 then .ok (jR ts,ts.tail) else .error (nowAt ts,140)
theorem arrayS_eq (ts:List Tok):dO ts=match af [118,97,114] ts with
 | .error e=>.error e
 | .ok ts1=>match aM ts1 with
  | .error e=>.error e
  | .ok (t,ts2)=>match af [91] ts2 with
   | .error e=>.error e
   | .ok ts3=>match pR ts3 with
    | .error e=>.error e
    | .ok (n,ts4)=>match af [93] ts4 with
     | .error e=>.error e
     | .ok ts5=>match af [59] ts5 with
      | .error e=>.error e
      | .ok ts6=>.ok (.mk 2 t n (nowAt ts) [],ts6):=by
 unfold dO pR
 cases af [118,97,114] ts with
 | error e=>rfl
 | ok ts1 =>
  simp only []
  cases aM ts1 with
  | error e=>rfl
  | ok v =>
   obtain ⟨t,ts2⟩:=v
   simp only []
   cases af [91] ts2 with
   | error e=>rfl
   | ok ts3 =>
    simp only []
    by_cases h:aj ts3=3
    ·rw [if_pos h,if_pos h]
     simp only []
     cases af [93] ts3.tail with
     | error e=>rfl
     | ok ts5 =>
      simp only []
      cases af [59] ts5 <;> rfl
    ·rw [if_neg h,if_neg h]
theorem Et (R d:Nat) (ts:List Tok) (w:World) (h:RD w R ts d) :
  Calls Tryz.prog 54 #[.pointer (some ⟨R,0,none⟩)] w (aX w R d (dO ts)):=by
 obtain ⟨t,r,rfl⟩:=h.fin.cons
 have HU:=Lib.hid (arrayS_eq (t :: r))
 have H:=Lib.hid h
 have hRw:=h.lt.1
 clear h
 have f0:=mH
 have f2:=Gr
 go_enter Tryz.func54,Tryz.ntmps54
 go_wp2_with fail
 refine (dX R d 2 (t :: r) _ H.out).mono ?_; rintro e w1 ⟨X,rfl,hX,hb1,hk1⟩
 have HR1:=Lib.hid (H.out.below hk1 hRw)
 have HX1:=Lib.hid (aO.fresh hb1)
 have HK1:=Lib.hid (au.of (R:=R) hk1)
 have hRX:R<X:=by omega
 have hs1:=hk1.size
 clear hb1 hk1
 cases h1:isT [118,97,114] (t :: r)
 ·have I:=Lib.hid h1; clear h1
  go_wp2_with fail
  refine (eX (x:=[118,97,114]) HR1.out I.out).mono ?_; rintro e w2 ⟨rfl,hb⟩
  go_wp2_with fail
  exact⟨rfl,OutB.err (by rw [HU.out,kr I.out]) (HK1.out.below hb hs1)⟩
 have I:=Lib.hid h1; clear h1
 go_wp2_with fail
 refine (dN (x:=[118,97,114]) HR1.out I.out).mono ?_; rintro e w2 ⟨rfl,hr,hk⟩
 have hu:=HU.out
 rw [jq I.out] at hu
 simp only [] at hu
 have HU2:=Lib.hid hu
 clear hu
 have HR2:=Lib.hid hr
 have HX2:=Lib.hid (HX1.out.keep hk HX1.out.top hRX)
 have HK2:=Lib.hid (HK1.out.trans hk hs1)
 have hs2:w.heap.size≤w2.heap.size:=HK2.out.size
 clear hr hk HU HR1 HX1 HK1 I
 obtain ⟨t2,r2,rfl⟩:=HR2.out.fin.cons
 by_cases hn:t2.kind=1
 case neg =>
  have I:=Lib.hid hn; clear hn
  go_wp2_with fail
  refine (jH HR2.out I.out).mono ?_; rintro e w3 ⟨rfl,hb⟩
  go_wp2_with fail
  exact⟨rfl,OutB.err (by rw [HU2.out,oD I.out]) (HK2.out.below hb hs2)⟩
 have I:=Lib.hid hn; clear hn
 go_wp2_with fail
 refine (gI HR2.out I.out).mono ?_; rintro e w3 ⟨rfl,hr,hk⟩
 have hu:=HU2.out
 rw [nA I.out] at hu
 simp only [] at hu
 have HU3:=Lib.hid hu
 clear hu
 have hx:=HX2.out.keep hk HX2.out.top hRX
 obtain ⟨vv,bb⟩:=hx.blk
 have e1:w3.cell? ⟨X,1,none⟩=some (.string ⟨([]:List UInt8).toArray⟩):=bb.cell 1
 have e2:=bb.free 1
 have HR3:=Lib.hid (hr.set (p:=⟨X,1,none⟩) hRX (.string ⟨t2.text.toArray⟩))
 have HX3:=Lib.hid (hx.text t2.text)
 have HK3:=Lib.hid ((HK2.out.trans hk hs2).setCell (p:=⟨X,1,none⟩) (Or.inr hX) (.string ⟨t2.text.toArray⟩))
 clear hr hk hx bb HU2 HR2 HX2 HK2 I
 go_upto_region 4 with fail
 generalize w3.setCell ⟨X,1,none⟩ (.string ⟨t2.text.toArray⟩)=W3 at *
 have hs3:w.heap.size≤W3.heap.size:=HK3.out.size
 clear e1 e2
 obtain ⟨t3,r3,rfl⟩:=HR3.out.fin.cons
 cases h1:isT [91] (t3 :: r3)
 ·have I:=Lib.hid h1; clear h1
  go_wp2_with fail
  refine (eX (x:=[91]) HR3.out I.out).mono ?_; rintro e w4 ⟨rfl,hb⟩
  go_wp2_with fail
  exact⟨rfl,OutB.err (by rw [HU3.out,kr I.out]) (HK3.out.below hb hs3)⟩
 have I:=Lib.hid h1; clear h1
 go_wp2_with fail
 refine (dN (x:=[91]) HR3.out I.out).mono ?_; rintro e w4 ⟨rfl,hr,hk⟩
 have hu:=HU3.out
 rw [jq I.out] at hu
 simp only [] at hu
 have HU4:=Lib.hid hu
 clear hu
 have HR4:=Lib.hid hr
 have HX4:=Lib.hid (HX3.out.keep hk HX3.out.top hRX)
 have HK4:=Lib.hid (HK3.out.trans hk hs3)
 have hs4:w.heap.size≤w4.heap.size:=HK4.out.size
 clear hr hk HU3 HR3 HX3 HK3 I
 obtain ⟨t4,r4,rfl⟩:=HR4.out.fin.cons
 by_cases hn:t4.kind=3
 case neg =>
  have kk:((t4.kind:Int) == 3)=false:=by simp; omega
  have I:=Lib.hid hn; clear hn
  go_wp2_with fail
  refine (dP R t4 r4 d _ HR4.out).mono ?_; rintro e w5 ⟨rfl,hb⟩; unfold eY
  have HR5:=Lib.hid (HR4.out.below hb HR4.out.lt.1)
  have HK5:=Lib.hid (HK4.out.below hb hs4)
  have hs5:w.heap.size≤w5.heap.size:=HK5.out.size
  clear hb
  go_wp2_with fail
  refine (um R t4 r4 d _ HR5.out).mono ?_; rintro e w6 ⟨rfl,hb⟩
  go_wp2_with fail
  refine⟨rfl,OutB.err ?_ (HK5.out.below hb hs5)⟩
  rw [HU4.out]; unfold pR; rw [if_neg (show ¬ aj (t4 :: r4)=3 from I.out)]; rfl
 have kk:((t4.kind:Int) == 3)=true:=by simp [hn]
 have I:=Lib.hid hn; clear hn
 go_wp2_with fail
 refine (dP R t4 r4 d _ HR4.out).mono ?_; rintro e w5 ⟨rfl,hb⟩; unfold eY
 have HR5:=Lib.hid (HR4.out.below hb HR4.out.lt.1)
 have HK5:=Lib.hid (HK4.out.below hb hs4)
 have HX5:=Lib.hid (HX4.out.keep (.of hb) HX4.out.top hRX)
 have hs5:w.heap.size≤w5.heap.size:=HK5.out.size
 clear hb HR4 HK4 HX4
 go_wp2_with fail
 refine (kJ R t4 r4 d _ HR5.out (by have:=I.out; omega)).mono ?_; rintro e w6 ⟨rfl,hr,hk⟩; unfold eY
 have hu:=HU4.out
 rw [show pR (t4 :: r4)=.ok (t4.n,r4) by unfold pR; rw [if_pos (show aj (t4 :: r4)=3 from I.out)]; rfl] at hu
 simp only [] at hu
 have HU6:=Lib.hid hu
 clear hu
 have hx:=HX5.out.keep hk HX5.out.top hRX
 obtain ⟨vv,bb⟩:=hx.blk
 have e1:w6.cell? ⟨X,2,none⟩=some (.int .i64 0):=bb.cell 2
 have e2:=bb.free 2
 have HR6:=Lib.hid (hr.set (p:=⟨X,2,none⟩) hRX (.int .i64 t4.n))
 have HX6:=Lib.hid (hx.num t4.n)
 have HK6:=Lib.hid ((HK5.out.trans hk hs5).setCell (p:=⟨X,2,none⟩) (Or.inr hX) (.int .i64 t4.n))
 clear hr hk hx bb HU4 HR5 HX5 HK5 I kk
 go_upto_region 6 with fail
 generalize w6.setCell ⟨X,2,none⟩ (.int .i64 t4.n)=W6 at *
 have hs6:w.heap.size≤W6.heap.size:=HK6.out.size
 clear e1 e2
 obtain ⟨t7,r7,rfl⟩:=HR6.out.fin.cons
 cases h1:isT [93] (t7 :: r7)
 ·have I:=Lib.hid h1; clear h1
  go_wp2_with fail
  refine (eX (x:=[93]) HR6.out I.out).mono ?_; rintro e w7 ⟨rfl,hb⟩
  go_wp2_with fail
  exact⟨rfl,OutB.err (by rw [HU6.out,kr I.out]) (HK6.out.below hb hs6)⟩
 have I:=Lib.hid h1; clear h1
 go_wp2_with fail
 refine (dN (x:=[93]) HR6.out I.out).mono ?_; rintro e w7 ⟨rfl,hr,hk⟩
 have hu:=HU6.out
 rw [jq I.out] at hu
 simp only [] at hu
 have HU7:=Lib.hid hu
 clear hu
 have HR7:=Lib.hid hr
 have HX7:=Lib.hid (HX6.out.keep hk HX6.out.top hRX)
 have HK7:=Lib.hid (HK6.out.trans hk hs6)
 have hs7:w.heap.size≤w7.heap.size:=HK7.out.size
 clear hr hk HU6 HR6 HX6 HK6 I
 obtain ⟨t8,r8,rfl⟩:=HR7.out.fin.cons
 cases h1:isT [59] (t8 :: r8)
 ·have I:=Lib.hid h1; clear h1
  go_wp2_with fail
  refine (eX (x:=[59]) HR7.out I.out).mono ?_; rintro e w8 ⟨rfl,hb⟩
  go_wp2_with fail
  exact⟨rfl,OutB.err (by rw [HU7.out,kr I.out]) (HK7.out.below hb hs7)⟩
 have I:=Lib.hid h1; clear h1
 go_wp2_with fail
 refine (dN (x:=[59]) HR7.out I.out).mono ?_; rintro e w8 ⟨rfl,hr,hk⟩
 have hu:=HU7.out
 rw [jq I.out] at hu
 simp only [] at hu
 have HU8:=Lib.hid hu
 clear hu
 have HR8:=Lib.hid hr
 have HX8:=Lib.hid (HX7.out.keep hk HX7.out.top hRX)
 have HK8:=Lib.hid (HK7.out.trans hk hs7)
 clear hr hk HU7 HR7 HX7 HK7 I
 go_wp2_with fail
 go_ret
 exact OutB.ok HU8.out HK8.out HR8.out ⟨X,rfl,HX8.out.close.mono (fun j hj _=>by omega)⟩
end Go.Proofs.YtkkeocnnecegbaaGreatDoor
namespace Go.Proofs.YtkkeocnnecegbaaGreatDoor
open Go.RowKit
def parM (ts:List Tok):Rd :=
 match aM ts with
 | .error e=>.error e
 | .ok (t,r)=>.ok (.mk 4 t 0 (nowAt ts) [],r)
theorem vG (f:Nat) (b:Bool) (acc:List Item) (ts:List Tok):parsS (f+1) b acc ts=listStep parM (parsS f) b acc ts:=by
 conv=>lhs; unfold parsS
 unfold listStep parM
 split
 ·rfl
 ·cases (if b=true then Except.ok ts else af [44] ts) with
  | error e=>rfl
  | ok ts1 =>
   simp only []
   cases aM ts1 <;> rfl
theorem vK (b:Bool) (acc:List Item) (ts:List Tok):parsS 0 b acc ts=.error aI:=by unfold parsS; rfl
theorem Iw (cap:Array Value) (W:World):(callFunc 94 cap).run Tryz.prog W=.ok (.enter 94 cap) W:=by kernel_rfl
theorem Ei (B bx br X L R d k a:Nat) (t:List UInt8) (n:Int) (l:List Item) (ts:List Tok) (w:World) (hQ:bX bx br X L R k t n a l w) (hb:iN bx br X L R) (hr:RD w R ts d) (hB:B≤X) (hl:l.length≤100000) :
  Calls Tryz.prog 94 #[.pointer (some ⟨br,0,none⟩),.pointer (some ⟨bx,0,none⟩)] w (OutB B w R d (parM ts) fun x v w'=>v=.tuple #[]∧bX bx br X L R k t n a (l ++ [x]) w'):=by
 obtain ⟨tk,r,rfl⟩:=hr.fin.cons
 obtain ⟨hbx,hbr,C,hit⟩:=hQ
 have HIT:=Lib.hid (hit.grow hit.top (Nat.le_refl _))
 have HBX:=Lib.hid hbx; have HBR:=Lib.hid hbr
 have HB:=Lib.hid hb; have HR:=Lib.hid hr
 have hle:=HIT.out.le
 have hlt:=HIT.out.lt
 have hRX:=hb.RX
 have hbL:=hb.x
 have hrL:=hb.r
 have hxR:=hb.xR
 have hrR:=hb.rR
 clear hbx hbr hit hb hr
 have c1:w.cell? ⟨br,0,none⟩=some (.pointer (some ⟨R,0,none⟩)):=HBR.out.cell 0
 go_enter Tryz.func94,Tryz.ntmps94
 go_wp2_with fail
 refine (dX R d 4 (tk :: r) _ HR.out).mono ?_; rintro e w1 ⟨P,rfl,hP,hbP,hb1⟩
 have HP1:=Lib.hid hbP
 have HIT1:=Lib.hid (HIT.out.keep (.of hb1) (Nat.le_refl _) hRX)
 have HBX1:=Lib.hid (HBX.out.below hb1)
 have HBR1:=Lib.hid (HBR.out.below hb1)
 have HR1:=Lib.hid (HR.out.below hb1 HR.out.lt.1)
 have HK1:Hid (au B R w w1):=Lib.hid (.of (hb1.mono (by omega)))
 have hs1:=hb1.size
 have lP:=HP1.out.lt
 clear hbP hb1 c1
 have c1:w1.cell? ⟨br,0,none⟩=some (.pointer (some ⟨R,0,none⟩)):=HBR1.out.cell 0
 by_cases hk:tk.kind=1
 case neg =>
  have I:=Lib.hid hk; clear hk
  go_wp2_with fail
  refine (jH HR1.out I.out).mono ?_; rintro e w2 ⟨rfl,hb⟩
  go_wp2_with fail
  exact⟨rfl,OutB.err (by unfold parM; rw [oD I.out]) (HK1.out.below hb (by omega))⟩
 have I:=Lib.hid hk; clear hk
 go_wp2_with fail
 refine (gI HR1.out I.out).mono ?_; rintro e w2 ⟨rfl,hr2,hk2⟩
 have hP2:=HP1.out.kept hk2 lP (by omega)
 have g1:w2.cell? ⟨P,1,none⟩=some (.string ⟨([]:List UInt8).toArray⟩):=hP2.cell 1
 have g2:=hP2.free 1
 have hs2:=hk2.size
 have n1:¬ bx=P:=by omega
 have n2:¬ br=P:=by omega
 have HIP:=Lib.hid ((aO.fresh hP2).text tk.text)
 have it2:=HIT1.out.keep hk2 hs1 hRX
 have HIT2:=Lib.hid (it2.keep ((au.refl w.heap.size R w2).setCell (p:=⟨P,1,none⟩) (Or.inr hP) (.string ⟨tk.text.toArray⟩)) (Nat.le_refl _) hRX)
 have HBX2:=Lib.hid ((HBX1.out.kept hk2 (by omega) hxR).far n1 1 (.string ⟨tk.text.toArray⟩))
 have HBR2:=Lib.hid ((HBR1.out.kept hk2 (by omega) hrR).far n2 1 (.string ⟨tk.text.toArray⟩))
 have HR2:=Lib.hid (hr2.set (p:=⟨P,1,none⟩) (show R<P by omega) (.string ⟨tk.text.toArray⟩))
 have HK2:=Lib.hid ((HK1.out.trans hk2 (by omega)).setCell (p:=⟨P,1,none⟩) (Or.inr (show B≤P by omega)) (.string ⟨tk.text.toArray⟩))
 clear hr2 hk2 hP2 it2
 go_upto_region 2 with fail
 have hz:w2.heap.size=(w2.setCell ⟨P,1,none⟩ (.string ⟨tk.text.toArray⟩)).heap.size:=by simp [World.setCell]
 have HZ:=Lib.hid hz
 clear hz
 generalize w2.setCell ⟨P,1,none⟩ (.string ⟨tk.text.toArray⟩)=W2 at *
 clear g1 g2 c1
 have c2:W2.cell? ⟨bx,0,none⟩=some (.pointer (some ⟨X,0,none⟩)):=HBX2.out.cell 0
 have hs2':w1.heap.size≤W2.heap.size:=by have:=HZ.out; omega
 have HKN:Hid (KidsAt (W2.alloc (.cells #[.pointer (some ⟨P,0,none⟩)] 93)) (fun j=>w.heap.size≤j) [P] [.mk 4 tk.text 0 tk.at' []]):=Lib.hid (KidsAt.one ((HIP.out.close.alloc _).mono (fun j hj _=>by omega)))
 have HITa:=Lib.hid (HIT2.out.alloc (.cells #[.pointer (some ⟨P,0,none⟩)] 93))
 have HBXa:=Lib.hid (HBX2.out.alloc (.cells #[.pointer (some ⟨P,0,none⟩)] 93))
 have HBRa:=Lib.hid (HBR2.out.alloc (.cells #[.pointer (some ⟨P,0,none⟩)] 93))
 have HRa:=Lib.hid (HR2.out.alloc (.cells #[.pointer (some ⟨P,0,none⟩)] 93))
 have HKa:=Lib.hid (HK2.out.alloc (by omega) (.cells #[.pointer (some ⟨P,0,none⟩)] 93))
 go_wp2_with fail
 refine (fG X L w.heap.size W2.heap.size 1 k a t n l [.mk 4 tk.text 0 tk.at' []] [P] _ HITa.out (Blk.new W2 93 _) HKN.out rfl (by omega) (by omega)).mono ?_
 rintro e w3 ⟨rfl,hx3,hk3⟩
 have HQ3:Hid (bX bx br X L R k t n a (l ++ [.mk 4 tk.text 0 tk.at' []]) w3):=Lib.hid ⟨HBXa.out.kept hk3 HB.out.x HB.out.xX,HBRa.out.kept hk3 HB.out.r HB.out.rX,_,hx3⟩
 have HR3:=Lib.hid (HRa.out.item hk3 hRX hlt)
 have HK3:=Lib.hid (HKa.out.trans (hk3.item (B:=B) hB hlt) (Nat.le_refl _))
 clear hx3 hk3 c2
 go_wp2_with fail
 go_end0
 exact OutB.ok (x:=.mk 4 tk.text 0 tk.at' []) (ts:=r) (by unfold parM; rw [nA I.out]; rfl) HK3.out HR3.out ⟨rfl,HQ3.out⟩
theorem sK:∀ (f:Nat) (b:Bool) (acc:List Item) (ts r:List Tok) (l:List Item),ah ts→parsS f b acc ts=.ok (l,r)→l.length+r.length≤acc.length+ts.length
 | 0,_,_,_,_,_,_,h=>by rw [vK] at h; cases h
 | f+1,b,acc,ts,r,l,he,h=>by
  rw [vG] at h
  unfold listStep at h
  split at h
  ·injection h with h; injection h with h1 h2; subst h1 h2; exact Nat.le_refl _
  ·cases h1:(if b=true then Except.ok ts else af [44] ts) with
   | error e=>rw [h1] at h; cases h
   | ok ts1 =>
    rw [h1] at h
    simp only [] at h
    have he1:ah ts1∧ts1.length≤ts.length:=by
     cases b with
     | true=>rw [if_pos rfl] at h1; injection h1 with h1; subst h1; exact⟨he,Nat.le_refl _⟩
     | false =>
      rw [if_neg (by simp)] at h1
      have:=aB he h1
      exact⟨this.1,by omega⟩
    unfold parM at h
    cases hn:aM ts1 with
    | error e=>rw [hn] at h; cases h
    | ok v =>
     obtain ⟨tt,rr⟩:=v
     rw [hn] at h
     simp only [] at h
     have h2:=bP he1.1 hn
     have:=sK f false (acc ++ [.mk 4 tt 0 (nowAt ts1) []]) rr r l h2.1 h
     simp only [List.length_append,List.length_singleton] at this
     omega
theorem funcS_eq (f:Nat) (ts:List Tok):dU f ts=match af [102,117,110,99] ts with
 | .error e=>.error e
 | .ok ts1=>match aM ts1 with
  | .error e=>.error e
  | .ok (t,ts2)=>match listR (parsS f true []) ts2 with
   | .error e=>.error e
   | .ok (l,ts5)=>match aH f 0 ts5 with
    | .error e=>.error e
    | .ok (b,ts6)=>.ok (.mk 3 t 0 (nowAt ts) (l ++ [b]),ts6):=by
 unfold dU listR
 cases af [102,117,110,99] ts with
 | error e=>rfl
 | ok ts1 =>
  simp only []
  cases aM ts1 with
  | error e=>rfl
  | ok v =>
   obtain ⟨t,ts2⟩:=v
   simp only []
   cases af [40] ts2 with
   | error e=>rfl
   | ok ts3 =>
    simp only []
    cases parsS f true [] ts3 with
    | error e=>rfl
    | ok v =>
     obtain ⟨l,ts4⟩:=v
     simp only []
     cases af [41] ts4 with
     | error e=>rfl
     | ok ts5 =>
      simp only []
      cases aH f 0 ts5 <;> rfl
theorem Gq (f R T:Nat) (ts:List Tok) (w:World) (h:RD w R ts 0) (hT:ts.length≤T) (hT2:T≤90000) (hne:dU f ts≠.error aI) :
  Calls Tryz.prog 55 #[.pointer (some ⟨R,0,none⟩)] w (aX w R 0 (dU f ts)):=by
 obtain ⟨t,r,rfl⟩:=h.fin.cons
 have HU:=Lib.hid (funcS_eq f (t :: r))
 have H:=Lib.hid h; have HNE:=Lib.hid hne
 have hRw:=h.lt.1
 have HT:=Lib.hid (show r.length≤T by simp only [List.length_cons] at hT; omega)
 clear h hne hT
 go_enter Tryz.func55,Tryz.ntmps55
 go_wp2_with fail
 refine (dX R 0 3 (t :: r) _ (H.out.alloc _)).mono ?_; rintro e w1 ⟨X,rfl,hX,hb1,hk1⟩
 have hXw:w.heap.size<X:=by simp at hX; omega
 have HBX:=Lib.hid hb1
 have hbr:Blk w1 w.heap.size 90 #[.pointer (some ⟨R,0,none⟩)]:=(Blk.new w 90 _).below hk1
 have HBR:=Lib.hid hbr
 have HR1:=Lib.hid (((H.out.alloc (.cells #[.pointer (some ⟨R,0,none⟩)] 90)).below hk1 (by simp; omega)).alloc (.cells #[.pointer (some ⟨X,0,none⟩)] 93))
 have lX:=HBX.out.lt
 have l1:=hbr.lt
 have HK1:=Lib.hid ((((au.refl _ R w).alloc (Nat.le_refl _) (.cells #[.pointer (some ⟨R,0,none⟩)] 90)).below hk1 (by simp)).alloc (by omega) (.cells #[.pointer (some ⟨X,0,none⟩)] 93))
 have n1:¬ w1.heap.size=X:=by omega
 have n2:¬ w.heap.size=X:=by omega
 have n3:¬ X=w1.heap.size:=by omega
 have n4:¬ X=w.heap.size:=by omega
 have HQ1:Hid (bX w1.heap.size w.heap.size X (w1.heap.size+1) R 3 [] 0 t.at' [] (w1.alloc (.cells #[.pointer (some ⟨X,0,none⟩)] 93))):=Lib.hid ⟨Blk.new w1 93 _,HBR.out.alloc _,_,aO.new (HBX.out.alloc _) (show X<w1.heap.size+1 by omega) (by simp)⟩
 have HB:Hid (iN w1.heap.size w.heap.size X (w1.heap.size+1) R):=Lib.hid ⟨by omega,by omega,n1,n2,by omega,by omega,by omega⟩
 have hs1:w.heap.size≤(w1.alloc (.cells #[.pointer (some ⟨X,0,none⟩)] 93)).heap.size:=by simp; omega
 have c1:w1.cell? ⟨w.heap.size,0,none⟩=some (.pointer (some ⟨R,0,none⟩)):=hbr.cell 0
 clear hb1 hk1 hbr hX
 cases h1:isT [102,117,110,99] (t :: r)
 ·have I:=Lib.hid h1; clear h1
  go_wp2_with fail
  refine (eX (x:=[102,117,110,99]) HR1.out I.out).mono ?_; rintro e w2 ⟨rfl,hb⟩
  go_wp2_with fail
  exact⟨rfl,OutB.err (by rw [HU.out,kr I.out]) (HK1.out.below hb hs1)⟩
 have I:=Lib.hid h1; clear h1
 go_wp2_with fail
 refine (dN (x:=[102,117,110,99]) HR1.out I.out).mono ?_; rintro e w2 ⟨rfl,hr,hk⟩
 have hu:=HU.out
 rw [jq I.out] at hu
 simp only [] at hu
 have HU2:=Lib.hid hu
 clear hu
 have HQ2:=Lib.hid (HQ1.out.keep HB.out hk)
 have HR2:=Lib.hid hr
 have HK2:=Lib.hid (HK1.out.trans hk hs1)
 have hs2:w.heap.size≤w2.heap.size:=HK2.out.size
 clear hr hk HU HQ1 HR1 HK1 I c1 HBX HBR
 have cx:w2.cell? ⟨w1.heap.size,0,none⟩=some (.pointer (some ⟨X,0,none⟩)):=HQ2.out.bx.cell 0
 have cr:w2.cell? ⟨w.heap.size,0,none⟩=some (.pointer (some ⟨R,0,none⟩)):=HQ2.out.br.cell 0
 have lx2:=HQ2.out.bx.lt
 have lr2:=HQ2.out.br.lt
 obtain ⟨t2,r2,rfl⟩:=HR2.out.fin.cons
 go_wp2_with fail
 by_cases hn:t2.kind=1
 case neg =>
  have I:=Lib.hid hn; clear hn
  refine wp_region_held_drew (S:=fun w'=>w'.cell? ⟨w1.heap.size,0,none⟩=some (.pointer (some ⟨X,0,none⟩))∧w'.cell? ⟨w.heap.size,0,none⟩=some (.pointer (some ⟨R,0,none⟩))) (by kernel_rfl) ⟨cx,cr⟩ (fun hS=>?_)
  refine wpAnyH_take (i:=0) (v:=.pointer (some ⟨X,0,none⟩)) rfl (by kernel_rfl) (by kernel_rfl) (by kernel_rfl) (fun _ _ _ h=>h) (Or.inl ⟨by rfl,?_⟩) hS ?_
  ·intro W hW
   go_simp
  simp only [Act.put,List.setIfInBounds_toArray]
  refine wpAnyH_take (i:=1) (v:=.pointer (some ⟨R,0,none⟩)) rfl (by kernel_rfl) (by kernel_rfl) (by kernel_rfl) (fun _ _ _ h=>h) (Or.inl ⟨by rfl,?_⟩) hS ?_
  ·intro W hW
   go_simp
  simp only [Act.put]
  refine wpAnyH_ready (rs:=[2]) (by kernel_rfl) (by simp) ?_
  refine AllReadyH.cons rfl (fun K hK=>?_) .nil
  go_simp
  refine (jH HR2.out.drew I.out).mono ?_
  rintro e w3 ⟨rfl,hb⟩
  exact⟨rfl,OutB.err (by rw [HU2.out,oD I.out]) (HK2.out.trans (au.fD (.of hb)) (by show w.heap.size≤w2.heap.size; omega))⟩
 have I:=Lib.hid hn; clear hn
 have hu:=HU2.out
 rw [nA I.out] at hu
 simp only [] at hu
 have HU3:=Lib.hid hu
 clear hu
 obtain ⟨hbx,hbr,C2,hit2⟩:=HQ2.out
 have HIT2:=Lib.hid (hit2.grow hit2.top (Nat.le_refl _))
 obtain ⟨vv,bb⟩:=hit2.blk
 have HXB:Hid (Blk w2.drew X 160 _):=Lib.hid bb
 have HBXd:Hid (Blk w2.drew w1.heap.size 93 #[.pointer (some ⟨X,0,none⟩)]):=Lib.hid hbx
 have HBRd:Hid (Blk w2.drew w.heap.size 90 #[.pointer (some ⟨R,0,none⟩)]):=Lib.hid hbr
 have hX2:X<w2.heap.size:=bb.lt
 clear hbx hbr hit2 bb
 go_region_held3 (fun w'=>w'.cell? ⟨w1.heap.size,0,none⟩=some (.pointer (some ⟨X,0,none⟩))∧w'.cell? ⟨w.heap.size,0,none⟩=some (.pointer (some ⟨R,0,none⟩)))
  (first | go_keep)
  (first
   | (go_at_call 91; refine (gI HR2.out.drew I.out).mono ?_; rintro e w4 ⟨rfl,hr4,hk4⟩; have b1:=HBXd.out.kept hk4 (by exact lx2) HB.out.xR; have b2:=HBRd.out.kept hk4 (by exact lr2) HB.out.rR; have b3:=HXB.out.kept hk4 (by exact hX2) (by omega); have e1:w4.cell? ⟨w.heap.size,0,none⟩=some (.pointer (some ⟨R,0,none⟩)):=b2.cell 0; have e2:w4.cell? ⟨w1.heap.size,0,none⟩=some (.pointer (some ⟨X,0,none⟩)):=b1.cell 0; have e6:w4.cell? ⟨X,1,none⟩=some (.string ⟨([]:List UInt8).toArray⟩):=b3.cell 1; have e7:=b3.free 1; have HBX4:=Lib.hid b1; have HBR4:=Lib.hid b2; have HI4:=Lib.hid (HIT2.out.drew.keep hk4 (Nat.le_refl _) HB.out.RX); have HR4:=Lib.hid hr4; have HK4:=Lib.hid (HK2.out.trans (au.fD hk4) (by show w.heap.size≤w2.heap.size; omega)); clear b1 b2 b3 hr4 hk4))
 have HQ5:Hid (bX w1.heap.size w.heap.size X (w1.heap.size+1) R 3 t2.text 0 t.at' [] (w4.setCell ⟨X,1,none⟩ (.string ⟨t2.text.toArray⟩))):=Lib.hid ⟨HBX4.out.far n1 1 _,HBR4.out.far n2 1 _,_,HI4.out.text t2.text⟩
 have HR5:=Lib.hid (HR4.out.set (p:=⟨X,1,none⟩) HB.out.RX (.string ⟨t2.text.toArray⟩))
 have HK5:=Lib.hid (HK4.out.setCell (p:=⟨X,1,none⟩) (Or.inr (by show w.heap.size≤X; omega)) (.string ⟨t2.text.toArray⟩))
 generalize w4.setCell ⟨X,1,none⟩ (.string ⟨t2.text.toArray⟩)=W5 at *
 clear e1 e2 e6 e7 cx cr HBX4 HBR4 HI4 HR4 HK4 HXB HBXd HBRd HIT2 HQ2 HR2 HK2 HU2
 have e1:W5.cell? ⟨w.heap.size,0,none⟩=some (.pointer (some ⟨R,0,none⟩)):=HQ5.out.br.cell 0
 have hs5:w.heap.size≤W5.heap.size:=HK5.out.size
 go_wp2_with fail
 refine (xV w.heap.size R 0 94 f T #[.pointer (some ⟨w.heap.size,0,none⟩),.pointer (some ⟨w1.heap.size,0,none⟩)] (fun _=>parM) (fun g=>parsS g) (fun l w'=>bX w1.heap.size w.heap.size X (w1.heap.size+1) R 3 t2.text 0 t.at' l w') r2 W5 HR5.out hs5 (Iw _) (fun b acc ts=>vK b acc ts) (fun g b acc ts=>vG g b acc ts) ?hM ?hT HQ5.out (fun l wa wb ha hk=>ha.keep HB.out hk) ?hF ?hN).mono ?_
 case hM =>
  intro g ts x r' he hx
  unfold parM at hx
  cases hn:aM ts with
  | error e=>rw [hn] at hx; cases hx
  | ok v =>
   obtain ⟨tt,rr⟩:=v
   rw [hn] at hx
   have:=bP he hn
   injection hx with hx; injection hx with _ hx
   rw [← hx]; omega
 case hT=>have:=HT.out; simp only [List.length_cons] at this; omega
 case hF =>
  intro g ts1 wa acc hg hn hl hq hr hs
  exact Ei w.heap.size _ _ X (w1.heap.size+1) R 0 3 t.at' t2.text 0 acc ts1 wa hq HB.out hr (by omega) (by omega)
 case hN =>
  intro hc
  apply HNE.out
  rw [HU3.out,hc]
 rintro e w6 ⟨hk6,ho⟩
 have HK6:=Lib.hid (HK5.out.trans hk6 (Nat.le_refl _))
 have hs6:w.heap.size≤w6.heap.size:=HK6.out.size
 cases hW:listR (parsS f true []) r2 with
 | error q =>
  obtain ⟨p,er⟩:=q
  rw [hW] at ho
  subst ho
  exact⟨rfl,OutB.err (by rw [HU3.out,hW]) HK6.out⟩
 | ok q =>
  obtain ⟨l,rr⟩:=q
  rw [hW] at ho
  obtain ⟨hr6,v,rfl,rfl,hq6⟩:=ho
  have hu:=HU3.out
  rw [hW] at hu
  simp only [] at hu
  have HU6:=Lib.hid hu
  have hll:rr.length≤r2.length∧l.length≤90000:=by
   unfold listR at hW
   cases ht:af [40] r2 with
   | error e=>rw [ht] at hW; cases hW
   | ok ts1 =>
    rw [ht] at hW
    simp only [] at hW
    have h1:=aB HR5.out.fin ht
    cases hp:parsS f true [] ts1 with
    | error e=>rw [hp] at hW; cases hW
    | ok v =>
     obtain ⟨l',ts2⟩:=v
     rw [hp] at hW
     simp only [] at hW
     have h2:=nO _ _ _ _ _ _ h1.1 hp
     have h4:=sK _ _ _ _ _ _ h1.1 hp
     cases ht2:af [41] ts2 with
     | error e=>rw [ht2] at hW; cases hW
     | ok ts3 =>
      rw [ht2] at hW
      injection hW with hW; injection hW with e1 e2
      subst e1 e2
      have h3:=aB h2.1 ht2
      have:=HT.out
      simp only [List.length_cons,List.length_nil] at this h4
      omega
  have HLL:=Lib.hid hll
  have HR6:=Lib.hid hr6
  have HQ6:=Lib.hid hq6
  clear hW hr6 hk6 hq6 e1 hu hll
  have cx:w6.cell? ⟨w1.heap.size,0,none⟩=some (.pointer (some ⟨X,0,none⟩)):=HQ6.out.bx.cell 0
  have cr:w6.cell? ⟨w.heap.size,0,none⟩=some (.pointer (some ⟨R,0,none⟩)):=HQ6.out.br.cell 0
  have lx6:=HQ6.out.bx.lt
  have lr6:=HQ6.out.br.lt
  go_wp2_with fail
  have CALL:Hid (∀ W,RD W R rr 0→Calls Tryz.prog 95 #[.pointer (some ⟨R,0,none⟩)] W (aX W R 0 (aH f 0 rr))):=Lib.hid (fun W hW=>(wI f R T hT2).1 f (Nat.le_refl _) 0 rr W hW (by omega) (by have:=HT.out; have:=HLL.out.1; simp only [List.length_cons] at *; omega) (fun hc=>HNE.out (by rw [HU6.out,hc])))
  cases hW:aH f 0 rr with
  | error q =>
   obtain ⟨p,er⟩:=q
   have HC:=Lib.hid (fun W hW'=>(hW ▸ CALL.out W hW').mono (fun _ _=>aX.no))
   have HF:Hid (dU f (t :: t2 :: r2)=.error (p,er)):=Lib.hid (by rw [HU6.out,hW])
   clear hW CALL
   refine wp_region_held_drew (S:=fun w'=>w'.cell? ⟨w1.heap.size,0,none⟩=some (.pointer (some ⟨X,0,none⟩))∧w'.cell? ⟨w.heap.size,0,none⟩=some (.pointer (some ⟨R,0,none⟩))) (by kernel_rfl) ⟨cx,cr⟩ (fun hS=>?_)
   refine wpAnyH_take (i:=0) (v:=.pointer (some ⟨X,0,none⟩)) rfl (by kernel_rfl) (by kernel_rfl) (by kernel_rfl) (fun _ _ _ h=>h) (Or.inl ⟨by rfl,?_⟩) hS ?_
   ·intro W hW
    go_simp
   simp only [Act.put,List.setIfInBounds_toArray]
   refine wpAnyH_take (i:=1) (v:=.pointer (some ⟨R,0,none⟩)) rfl (by kernel_rfl) (by kernel_rfl) (by kernel_rfl) (fun _ _ _ h=>h) (Or.inl ⟨by rfl,?_⟩) hS ?_
   ·intro W hW
    go_simp
   simp only [Act.put]
   refine wpAnyH_ready (rs:=[2]) (by kernel_rfl) (by simp) ?_
   refine AllReadyH.cons rfl (fun K hK=>?_) .nil
   go_simp
   refine (HC.out _ HR6.out.drew).mono ?_
   rintro e w7 ⟨rfl,hk7⟩
   exact⟨rfl,OutB.err HF.out (HK6.out.trans (au.fD hk7) (by show w.heap.size≤w6.heap.size; omega))⟩
  | ok q =>
   obtain ⟨b,ts6⟩:=q
   have HC:=Lib.hid (fun W hW'=>(hW ▸ CALL.out W hW').mono (fun _ _=>aX.yes))
   have HF:Hid (dU f (t :: t2 :: r2)=.ok (.mk 3 t2.text 0 (nowAt (t :: t2 :: r2)) (l ++ [b]),ts6)):=Lib.hid (by rw [HU6.out,hW])
   clear hW CALL
   obtain ⟨hbx,hbr,C,hit⟩:=HQ6.out
   have HIT:=Lib.hid (hit.grow hit.top (Nat.le_refl _)).drew
   have HBX:Hid (Blk w6.drew w1.heap.size 93 #[.pointer (some ⟨X,0,none⟩)]):=Lib.hid hbx
   have HBR:Hid (Blk w6.drew w.heap.size 90 #[.pointer (some ⟨R,0,none⟩)]):=Lib.hid hbr
   have hacc:l.length≤90000:=HLL.out.2
   clear hbx hbr hit
   go_region_held3 (fun w'=>w'.cell? ⟨w1.heap.size,0,none⟩=some (.pointer (some ⟨X,0,none⟩))∧w'.cell? ⟨w.heap.size,0,none⟩=some (.pointer (some ⟨R,0,none⟩)))
    (first | go_keep)
    (first
     | (go_at_call 95; refine (HC.out _ HR6.out.drew).mono ?_; rintro e w7 ⟨p,rfl,hi1,hr1,hk1⟩; have b1:=HBX.out.kept hk1 lx6 HB.out.xR; have b2:=HBR.out.kept hk1 lr6 HB.out.rR; have c1:w7.cell? ⟨w1.heap.size,0,none⟩=some (.pointer (some ⟨X,0,none⟩)):=b1.cell 0; have c2:w7.cell? ⟨w.heap.size,0,none⟩=some (.pointer (some ⟨R,0,none⟩)):=b2.cell 0; have l1:=b1.lt; have l2:=b2.lt; have BX1:=Lib.hid b1; have BR1:=Lib.hid b2; have IT1:=Lib.hid (HIT.out.keep hk1 (Nat.le_refl _) HB.out.RX); have HI1:=Lib.hid hi1; have HR7:=Lib.hid hr1; have HK7:=Lib.hid hk1; clear b1 b2 hi1 hr1 hk1)
     | (go_at_call 53; refine (fG X (w1.heap.size+1) w6.drew.heap.size w7.heap.size 1 3 t.at' t2.text 0 l [b] [p] _ (IT1.out.alloc _) (Blk.new w7 93 _) (KidsAt.one (HI1.out.alloc _)) rfl (by omega) (by omega)).mono ?_; rintro e w8 ⟨rfl,it2,k2⟩; have b1:=(BX1.out.alloc (.cells #[.pointer (some ⟨p,0,none⟩)] 93)).kept k2 HB.out.x HB.out.xX; have b2:=(BR1.out.alloc (.cells #[.pointer (some ⟨p,0,none⟩)] 93)).kept k2 HB.out.r HB.out.rX; have d1:w8.cell? ⟨w1.heap.size,0,none⟩=some (.pointer (some ⟨X,0,none⟩)):=b1.cell 0; have d2:w8.cell? ⟨w.heap.size,0,none⟩=some (.pointer (some ⟨R,0,none⟩)):=b2.cell 0; have IT2:=Lib.hid it2; have K2:=Lib.hid k2; clear b1 b2 it2 k2))
   go_wp2_with fail
   go_ret
   have hs7:w6.heap.size≤w7.heap.size:=HK7.out.size
   have KK1:=HK6.out.trans (au.fD HK7.out) (by show w.heap.size≤w6.heap.size; omega)
   have KK2:=(KK1.alloc (by omega) (.cells #[.pointer (some ⟨p,0,none⟩)] 93)).trans (K2.out.item (B:=w.heap.size) (by omega) (by omega)) (Nat.le_refl _)
   exact OutB.ok HF.out KK2 ((HR7.out.alloc _).item K2.out HB.out.RX (by omega)) ⟨X,rfl,IT2.out.close.mono (fun j hj _=>by omega)⟩
end Go.Proofs.YtkkeocnnecegbaaGreatDoor
