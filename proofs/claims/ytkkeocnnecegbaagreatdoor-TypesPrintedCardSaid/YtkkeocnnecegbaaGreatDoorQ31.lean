/- Joint text: JG. By an AI agent. -/
import Derived.Test.YtkkeocnnecegbaaGreatDoorQ30
import Derived.Test.YtkkeocnnecegbaaGreatDoorQ19
import Derived.Test.YtkkeocnnecegbaaGreatDoorQ16
import Derived.Test.YtkkeocnnecegbaaGreatDoorRows
import Derived.Shelf.Vars
import Derived.ProofKit
import Derived.OpenShut
import Derived.Deep.Slices
import Derived.Deep.DeepHandedRow
import Derived.Deep.DeepWitnessRowRef
import Derived.Lib.LaidTab
import Derived.Stop.LaidErr
set_option linter.all false
set_option maxRecDepth 100000
set_option maxHeartbeats 64000000
namespace Go.Proofs.YtkkeocnnecegbaaGreatDoor
open Go.RowKit
theorem DX {w0:World} {A:Option Addr} {l:List PV} (h:dY w0 A l) (c:Nat):∀ (N:Nat) (b:Bool) (x:Item),N≤1000000→sizeI x≤N→WS b x→bz x→SC w0 A c l x (outS x):=by
 intro N
 induction N with
 | zero=>intro b x _ h; have:=aW x; omega
 | succ N ih =>
  intro b x hM hN hw hg
  cases hw with
  | block a ks hl =>
   simp only [sizeI] at hN
   exact Cv h c a ks (by have:=jZ ks; omega) (fun y hy=>ih true y (by omega) (by have:=iR hy; omega) (hl y hy) (fT hg.2.2 y hy))
  | declare t a x hx=>exact Gj h c t a x hx hg.2.2.1
  | assign t a x hx=>exact yY h c t a x hx hg.2.2.1
  | store t a x y hx hy=>exact Ar h c t a x y hx hy hg.2.2.1 hg.2.2.2.1
  | if1 a x b hx hb =>
   simp only [sizeI,sizeL] at hN
   exact Fv h c a x b hx hg.2.2.1 (ih false b (by omega) (by omega) hb hg.2.2.2.1)
  | if2 a x b d hx hb hd =>
   simp only [sizeI,sizeL] at hN
   exact G7 h c a x b d hx hg.2.2.1 (ih false b (by omega) (by omega) hb hg.2.2.2.1) (ih false d (by omega) (by omega) hd hg.2.2.2.2.1)
  | for1 a x b hx hb =>
   simp only [sizeI,sizeL] at hN
   exact EY h c a x b hx hg.2.2.1 (ih false b (by omega) (by omega) hb hg.2.2.2.1)
  | ret k a x hk hx =>
   rcases hk with rfl | rfl | rfl
   ·exact za h c a x hx hg.2.2.1
   ·exact BM h c a x hx hg.2.2.1
   ·exact Dp h c a x hx hg.2.2.1
  | read t a=>exact DD h c t a
  | call t a u bb ls hl =>
   simp only [sizeI,sizeL] at hN
   exact ED h c t a u bb ls hl hg.2.2.2 (by have:=jZ ls; omega)
theorem EL {w0:World} {A:Option Addr} {l:List PV} (h:dY w0 A l) (c:Nat) {x:Item} (hN:sizeI x≤1000000) (hw:WD x) (hg:bz x):SC w0 A c l x (outD x):=by
 cases hw with
 | array t n a =>
  obtain ⟨k,rfl⟩:=Int.eq_ofNat_of_zero_le hg.2.1.1
  exact Ca h c t k a (by have:=hg.2.1.2; omega)
 | func t a ps y hps hy =>
  simp only [sizeI,iY,sizeL] at hN
  exact EP h c t a ps y hps (by have:=jZ ps; omega) (DX h c (sizeI y) false y (by omega) (Nat.le_refl _) hy (fT hg.2.2 y (by simp)))
theorem oZ (x y:List Item):cZ (x ++ y)=cZ x ++ cZ y:=by
 induction x with
 | nil=>rfl
 | cons z r ih=>simp [cZ,ih]
theorem AL (ks:List Item) (j:Nat) (h:j<ks.length):cZ (ks.take (j+1))=cZ (ks.take j) ++ outD ks[j]:=by
 rw [take_one ks j h,oZ]; simp [cZ]
theorem BL (ks:List Item) (j:Nat):(cZ (ks.take j)).length≤(cZ ks).length:=by
 have:=congrArg (fun l=>(cZ l).length) (List.take_append_drop j ks)
 simp only [oZ,List.length_append] at this
 omega
theorem JJ (l:List Tk):l.length≤wt l:=by
 induction l with
 | nil=>simp
 | cons x r ih=>simp only [List.length_cons,wt]; omega
theorem dY.below {w w':World} {A:Option Addr} {l:List PV} (h:dY w A l) (hb:Below w.heap.size w w'):dY w' A l:=by
 obtain ⟨h1,h2,⟨m,h3⟩,h4⟩:=h
 exact⟨h1.below hb,h2.below hb,⟨m,(hb.cell (p:=⟨3,0,none⟩) (aa h3)).trans h3⟩,h4⟩
theorem wL {w:World} {A:Option Addr} {l:List PV} (h:dY w A l) (c:Nat) (x:Item) (hx:df (gns l) x) (hwt:wt (gM x)≤1000000) :
  Calls Tryz.prog 40 #[.agg #[.slice A l.length c]] w fun e w'=>e=.returned (.string ⟨(dC x).toArray⟩)∧Below w.heap.size w w':=by
 obtain ⟨hwp,hgd⟩:=hx.wp
 have hat:=hx.at0
 have hln:=hx.len
 rw [dA] at hln
 obtain ⟨k,t,n,a,ks⟩:=x
 obtain ⟨rfl,rfl,rfl,hwd⟩:=hwp
 have hgl:=hgd.2.2
 simp only [sizeI] at hln
 have hll:=h.len
 have hkl:=jZ ks
 have hak:=hat.2
 obtain ⟨⟨a',hg⟩,_⟩:=hat
 have htx:dC (.mk 1 [] 0 a ks)=Lib.join (txt (cZ ks)) [32]:=rfl
 have hjl:(Lib.join (txt (cZ ks)) [32]).length≤1000000:=Nat.le_trans (kg (cZ ks)) hwt
 have hol:(cZ ks).length≤1000000:=Nat.le_trans (JJ _) hwt
 have hb2:Below w.heap.size w ((w.alloc (.cells #[.slice A l.length c] 24)).alloc (.cells #[.slice A l.length c,.slice none 0 0] 151)):=((Below.refl _ _).alloc (Nat.le_refl _) _).alloc (by simp) _
 obtain ⟨hil,b,o,A3,c3,rfl,x0,x1,x2,x3,x4,hc3,hks⟩:=bR h.nod hb2 hg
 simp only [List.length_map,aL] at x4 hc3
 have hSC:∀ y∈ks,SC w (some ⟨b,o,none⟩) c l y (outD y):=fun y hy=>EL h c (by have:=iR hy; omega) (hwd y hy) (fT hgl y hy)
 have hwr:WrS ((w.alloc (.cells #[.slice (some ⟨b,o,none⟩) l.length c] 24)).alloc (.cells #[.slice (some ⟨b,o,none⟩) l.length c,.slice none 0 0] 151)) (w.heap.size+1) (w.heap.size+2) (some ⟨b,o,none⟩) l.length c [] :=
  ⟨by omega,by simp,.slice none 0 0,dF _ _ _ _ (by simp),World.ownsRow_nil _ _ _ _⟩
 have HSC:=Lib.hid hSC; have HWR0:=Lib.hid hwr; have HB2:=Lib.hid hb2
 have HAK:=Lib.hid hak; have HKS:=Lib.hid hks; have HTX:=Lib.hid htx; have HJL:=Lib.hid hjl; have HOL:=Lib.hid hol
 have lb:=aa x0
 have hl0:(0:Int)<(l.length:Int):=by omega
 simp only [Nat.zero_mul,Nat.add_zero] at x0 x1 x2 x3 x4 lb
 have hkll:ks.length≤1000000:=by omega
 clear hSC hwr hb2 hak hks htx hjl hol h hg hgl hgd hwd hx hwt x0 x1 x2 x3 hc3 hln hkl
 go_enter Tryz.func40,Tryz.ntmps40
 go_wp2_with fail
 obtain ⟨W2,hW2⟩:∃ W,W=(w.alloc (.cells #[.slice (some ⟨b,o,none⟩) l.length c] 24)).alloc (.cells #[.slice (some ⟨b,o,none⟩) l.length c,.slice none 0 0] 151):=⟨_,rfl⟩
 rw [← hW2] at HWR0 HB2 x4 lb ⊢
 clear hW2
 obtain ⟨R,hR⟩:∃ R,R=w.heap.size+1:=⟨_,rfl⟩
 have hRw:w.heap.size≤R:=by omega
 rw [← hR] at HWR0 ⊢
 have hB:w.heap.size+2=R+1:=by omega
 rw [hB] at HWR0
 clear hR hB
 go_loopg [15] ks.length (fun gk v wr=>∃ j:Nat,j≤ks.length∧ks.length - j≤gk∧v=.int .i64 j∧Hid (WrS wr R (R+1) (some ⟨b,o,none⟩) l.length c (txt (cZ (ks.take j))))∧Hid (Below w.heap.size w wr))
 case atStart=>exact⟨0,Nat.zero_le _,Nat.le_refl _,rfl,Lib.hid (by simpa [cZ,txt] using HWR0.out),HB2⟩
 case round =>
  obtain ⟨j,hj,hgk,rfl,HWR,HBW⟩:=hrel
  by_cases hlt:j<ks.length
  case neg =>
   have hie:j=ks.length:=by omega
   subst hie
   have hful:ks.take ks.length=ks:=List.take_length
   have hwr:=HWR.out
   rw [hful] at hwr
   obtain ⟨_,_,v,hv1,hv2⟩:=hwr
   have r1:wr.cell? ⟨R,1,none⟩=some v:=hv1.cell 1
   have lr1:=aa r1
   have hcall:=J6 (R+1) v (txt (cZ ks)) wr hv2 (by rw [aD]; exact HOL.out) (by have:=HJL.out; omega)
   have HC:=Lib.hid hcall
   obtain ⟨A5,c5,rfl⟩:=bJ hv2
   clear hful hv1 hv2 hcall HWR
   go_wp2_with fail
   refine HC.out.mono ?_
   rintro e w3 ⟨rfl,hb3⟩
   have HB3:=Lib.hid (HBW.out.trans (hb3.mono (by have:=HBW.out.size; omega)))
   clear hb3
   go_wp2_with fail
   go_ret
   exact⟨by rw [HTX.out]; rfl,HB3.out⟩
  case pos =>
   rcases HKS.out with h2 | ⟨b3,o3,rfl,h3⟩
   ·exfalso
    have:=congrArg List.length h2
    rw [List.length_map,aL,List.length_nil] at this
    omega
   have k3':=h3 j ((0+1+sizeL (ks.take j):Nat):Int) (by rw [List.getElem?_map,jv ks (0+1) j hlt]; rfl)
   have k3:=(HBW.out.cell (p:=⟨b3,_,none⟩) (aa k3')).trans k3'
   have hXC:=HSC.out ks[j] (List.getElem_mem hlt)
   have hat:=jQ HAK.out j hlt
   have hsn:=AL ks j hlt
   have hmono:=BL ks (j+1)
   rw [hsn,List.length_append] at hmono
   have HMO:=Lib.hid hmono
   have HXC:=Lib.hid hXC; have HAT:=Lib.hid hat; have HSN:=Lib.hid hsn
   have lb3:=aa k3
   clear k3' h3 hXC hat hsn hmono
   generalize hidx:0+1+sizeL (ks.take j)=idx at *
   generalize ks[j]=y at *
   clear hidx
   go_wp2_with fail
   refine (HXC.out idx R (R+1) wr _ HAT.out HBW.out hRw HWR.out (by have h1:=HMO.out; have h2:=HOL.out; rw [aD]; omega)).mono ?_
   rintro e w4 ⟨rfl,hw4,hf4⟩
   have HW4:=Lib.hid hw4
   have HB4:=Lib.hid (HBW.out.trans (hf4.below hRw (by omega) (by have:=HBW.out.size; omega)))
   clear hw4 hf4
   go_wp2_with fail
   cases gk with
   | zero=>omega
   | succ gk =>
    go_roundg gk
    case measure=>omega
    case rel =>
     refine⟨j+1,by omega,by omega,by simp,Lib.hid ?_,HB4⟩
     have:=HW4.out
     rw [HSN.out,tN]
     exact this
end Go.Proofs.YtkkeocnnecegbaaGreatDoor
namespace Go.Proofs.YtkkeocnnecegbaaGreatDoor
open Go.RowKit
def Cj (m:NV):PV:=(gn m.1,m.2)
theorem I6 (l:List NV):eZ (l.map Cj)=fu l:=by
 induction l with
 | nil=>rfl
 | cons m r ih=>simp only [eZ,fu,List.map_cons,List.flatMap_cons] at ih ⊢; rw [ih]; rfl
theorem E5 {w:World} {B:Nat} {v:Value} {ks:List Nat} (h:w.ownsRow B 3 1 v ks.length (oH ks)):eO w v (ks.map (fun k:Nat=>(k:Int))):=by
 by_cases h0:ks=[]
 ·subst h0
  obtain ⟨A,c,rfl⟩:=bJ h
  exact⟨A,c,rfl,Nat.zero_le _,Or.inl rfl⟩
 ·have hpos:0<ks.length:=List.length_pos_iff.2 h0
  obtain ⟨g,cap,rfl,_,hlt⟩:=h.form hpos
  refine⟨_,cap,by rw [List.length_map],by rw [List.length_map]; exact qb h,Or.inr ⟨g,0,rfl,fun j k hj=>?_⟩⟩
  rw [List.getElem?_map,Option.map_eq_some_iff] at hj
  obtain ⟨q,hq,rfl⟩:=hj
  have hjl:=(List.getElem?_eq_some_iff.1 hq).1
  have:=h.cellAt j (by omega)
  rw [Nat.zero_add,this,oH,List.getElem?_map,hq]; rfl
theorem qo.nod {w:World} {B:Nat} {v:Value} {x:Item} (h:qo w B v x):∃ A c l,v=.slice A l.length c∧bg w A l∧gns l=(flat 0 x).map gn∧l.length=sizeI x:=by
 obtain ⟨l,h1,h2,h3⟩:=h
 obtain ⟨A,c,rfl⟩:=bJ h2
 have hl:(l.map Cj).length=l.length:=List.length_map ..
 refine⟨A,c,l.map Cj,by rw [hl],bg.l6 (base:=B) (e:=43) (by rw [hl,I6]; exact h2) (fun g hg=>?_),?_,?_⟩
 ·obtain ⟨m,hm,rfl⟩:=List.mem_map.1 hg
  exact E5 (h3 m hm)
 ·rw [← h1]
  simp [gns,Cj,Function.comp_def]
 ·rw [hl,← iK x 0,← h1,List.length_map]
mutual
theorem uE:∀ (x:Item) (o:Nat),∀ m∈flat o x,m.kids.length≤sizeI x
 | .mk k t n a ks,o,m,hm=>by
  simp only [flat,List.mem_cons] at hm
  simp only [sizeI]
  rcases hm with rfl | hm
  ·simp only [aL]; have:=jZ ks; omega
  ·have:=rZ ks (o+1) m hm; omega
theorem rZ:∀ (l:List Item) (o:Nat),∀ m∈eQ o l,m.kids.length≤sizeL l
 | [],_,m,hm=>by simp [eQ] at hm
 | x :: r,o,m,hm=>by
  simp only [eQ,List.mem_append] at hm
  simp only [sizeL]
  rcases hm with hm | hm
  ·have:=uE x o m hm; omega
  ·have:=rZ r _ m hm; omega
end
theorem qP {l:List PV} {x:Item} (h:gns l=(flat 0 x).map gn):∀ g∈l,g.1.kids.length≤sizeI x:=by
 intro g hg
 have:g.1∈gns l:=List.mem_map.2 ⟨g,hg,rfl⟩
 rw [h] at this
 obtain ⟨m,hm,he⟩:=List.mem_map.1 this
 rw [← he]
 simp only [gn,List.length_map]
 exact uE x 0 m hm
theorem nT {l:List UInt8} {p:Nat} {e:Int} (h:bD l=.error (p,e)):e=130∨e=131∨e=140∨e=141:=by
 unfold bD at h
 cases hl:fZ l with
 | error q =>
  rw [hl] at h
  injection h with h
  subst h
  rcases xm (by rw [← je]; exact hl) with h | h
  ·exact Or.inl h
  ·exact Or.inr (Or.inl h)
 | ok ts =>
  rw [hl] at h
  obtain ⟨_,_,_,_,_,he,_⟩:=Fs (jB hl) (Iy (by rw [← je]; exact hl)).2 h
  rcases he with h | ⟨h,_⟩
  ·exact Or.inr (Or.inr (Or.inl h))
  ·exact Or.inr (Or.inr (Or.inr h))
theorem rV (w:World) (s:ByteArray):eP (Lib.bytesWorld w 5 s) (some ⟨w.heap.size,0,none⟩) s.data.toList:=by
 refine Or.inr ⟨w.heap.size,0,rfl,fun i hi=>?_⟩
 have hi':i<s.size:=by rw [← bB]; exact hi
 rw [Nat.zero_add,Lib.bytesWorld_cell w 5 s i hi',List.getD_eq_getElem?_getD,List.getElem?_eq_getElem hi]
 rfl
theorem yS (w:World) (S:ByteArray) (m c:Nat) (hm:S.size=m) (hn:m≤65536) (hw:EW w) (hmx:∃ m,w.cell? ⟨3,0,none⟩=some (.int .i64 m)) :
  Calls Tryz.prog 24 #[.slice (some ⟨w.heap.size,0,none⟩) m c] (Lib.bytesWorld w 5 S) fun e w'=>(∃ w1,w.heap.size≤w1.heap.size∧fM w1 w' S.data.toList e)∧Below w.heap.size w w':=by
 have hb:=rV w S
 have hB:=Lib.bytesWorld_below w 5 S
 obtain ⟨mm,hmm⟩:=hmx
 have hl:S.data.toList.length=m:=by rw [bB]; exact hm
 have:=pI (some ⟨w.heap.size,0,none⟩) c S.data.toList _ (by rw [hl]; exact hn) hb (hw.below hB) ⟨mm,(hB.cell (p:=⟨3,0,none⟩) (aa hmm)).trans hmm⟩
 rw [hl] at this
 exact this.mono (by rintro e w' ⟨h1,h2⟩; exact⟨⟨_,hB.size,h1⟩,ag hB h2⟩)
theorem uI {w:World} {A:Option Addr} {l:List PV} (h:dY w A l) (he:EW w) (c:Nat) (hk:∀ g∈l,g.1.kids.length≤1000000∧g.1.text.length≤1000000) (hT:∀ x,df (gns l) x→wt (gM x)≤65536) :
  Calls Tryz.prog 19 #[.agg #[.slice A l.length c]] w fun e w'=>(∃ b:Bool,e=.returned (.bool b)∧(b=true↔iX (gns l)))∧Below w.heap.size w w':=by
 have hb0:Below w.heap.size w (w.alloc (.cells #[.slice A l.length c] 24)):=(Below.refl _ _).alloc (Nat.le_refl _) _
 obtain ⟨n,hn⟩:∃ n,n=l.length:=⟨_,rfl⟩
 by_cases hl0:n=0
 case pos =>
  have HNO:Hid (¬ iX (gns l)):=Lib.hid (fun ⟨x,hx,_⟩=>by have:=hx.len; have:=aW x; rw [dA] at *; omega)
  rw [hl0] at hn
  rw [← hn] at hb0 ⊢
  have HB0:=Lib.hid hb0
  clear hb0 h he hk hT hn hl0
  go_enter Tryz.func19,Tryz.ntmps19
  go_wp2_with fail
  go_ret
  exact⟨⟨false,rfl,fun h=>(by cases h),fun h=>absurd h HNO.out⟩,HB0.out⟩
 case neg =>
  have hll:=h.len
  obtain ⟨g0,hg0⟩:∃ g,l[0]? = some g:=⟨_,List.getElem?_eq_getElem (by omega)⟩
  obtain ⟨b,o,rfl,x0,_,_,_,_,_⟩:=(h.nod.below hb0).at hg0
  have hG0:=jl hg0
  simp only [Nat.zero_mul,Nat.add_zero] at x0
  have lb:=aa x0
  have hn1:((n:Int) == 0)=false:=by simp; omega
  have hn2:(0:Int)<(n:Int):=by omega
  have hn3:¬ n=0:=by omega
  have hbx:Blk (w.alloc (.cells #[.slice (some ⟨b,o,none⟩) n c] 24)) w.heap.size 24 #[.slice (some ⟨b,o,none⟩) n c]:=Blk.new w 24 _
  have H:=Lib.hid h; have HE:=Lib.hid he; have HK:=Lib.hid hk; have HT:=Lib.hid hT; have HN:=Lib.hid hn; have HG0:=Lib.hid hG0
  rw [← hn] at hll hb0 x0 ⊢
  have HB0:=Lib.hid hb0; have HBX:=Lib.hid hbx
  clear h he hk hT hb0 hg0 hG0 hn hbx hl0
  by_cases hk1:g0.1.kind=1
  case neg =>
   have e1:((g0.1.kind:Int) != 1)=true:=by simp; omega
   have HNO:Hid (¬ iX (gns l)):=Lib.hid (fun ⟨x,hx,_⟩=>by
    obtain ⟨⟨g,hg,hgk⟩,_,_⟩:=hx.all
    rw [HG0.out] at hg; injection hg with hg; subst hg
    exact hk1 hgk)
   clear hk1
   go_enter Tryz.func19,Tryz.ntmps19
   go_wp2_with fail
   go_ret
   exact⟨⟨false,rfl,fun h=>(by cases h),fun h=>absurd h HNO.out⟩,HB0.out⟩
  case pos =>
   have e1:((g0.1.kind:Int) != 1)=false:=by simp; omega
   have HK1:=Lib.hid hk1
   clear hk1
   have hcall:Calls Tryz.prog 41 #[.agg #[.slice (some ⟨b,o,none⟩) n c],.int .i64 0] (w.alloc (.cells #[.slice (some ⟨b,o,none⟩) n c] 24)) fun e w'=>e=.returned (bvV (behindG (gns l) n 0))∧Below (w.alloc (.cells #[.slice (some ⟨b,o,none⟩) n c] 24)).heap.size (w.alloc (.cells #[.slice (some ⟨b,o,none⟩) n c] 24)) w':=by
    have hh:=Cy (some ⟨b,o,none⟩) c l (by rw [← HN.out]; exact hll) (fun g hg=>(HK.out g hg).1) n 0 _ (H.out.nod.below HB0.out) (by rw [← HN.out]; omega) (by rw [← HN.out]; omega)
    rw [← HN.out] at hh
    exact hh
   have HC:=Lib.hid hcall
   clear hcall
   have kS:=fun W s=>Lib.run_convert_string_bytes (P:=Tryz.prog) W 9 30 5 s (u:=.string) Tryz.underlying9 Tryz.underlying30 Tryz.underlying5
   go_enter Tryz.func19,Tryz.ntmps19
   go_wp2_with fail
   refine HC.out.mono ?_
   rintro e w1 ⟨rfl,hb1⟩
   have HB1:=Lib.hid (ag HB0.out hb1)
   have hbx1:Blk w1 w.heap.size 24 #[.slice (some ⟨b,o,none⟩) n c]:=(hb1.block _ (by simp)).trans HBX.out
   have HBX1:=Lib.hid hbx1
   have c0:w1.cell? ⟨w.heap.size,0,none⟩=some (.slice (some ⟨b,o,none⟩) n c):=hbx1.cell 0
   have lc0:=aa c0
   clear hb1 hbx1 x0 lb
   cases hbh:behindG (gns l) n 0 with
   | none =>
    have HNO:Hid (¬ iX (gns l)):=Lib.hid (fun ⟨x,hx,_⟩=>by
     obtain ⟨_,hh,_⟩:=hx.all
     rw [dA,← HN.out,hbh] at hh; cases hh)
    clear hbh
    unfold bvV
    simp only [Option.getD_none,Option.isSome_none]
    go_wp2_with fail
    go_ret
    exact⟨⟨false,rfl,fun h=>(by cases h),fun h=>absurd h HNO.out⟩,HB1.out⟩
   | some q =>
    by_cases hq:q=n
    case neg =>
     have HNO:Hid (¬ iX (gns l)):=Lib.hid (fun ⟨x,hx,_⟩=>by
      obtain ⟨_,hh,_⟩:=hx.all
      rw [dA,← HN.out,hbh] at hh; injection hh with hh; exact hq hh)
     have e2:((q:Int) != (n:Int))=true:=by simp; omega
     clear hbh hq
     unfold bvV
     simp only [Option.getD_some,Option.isSome_some]
     go_wp2_with fail
     go_ret
     exact⟨⟨false,rfl,fun h=>(by cases h),fun h=>absurd h HNO.out⟩,HB1.out⟩
    case pos =>
     subst hq
     have e2:((q:Int) != (q:Int))=false:=by simp
     obtain ⟨x,hx1,hx2⟩:=(uM (G:=gns l) (f:=q) (by rw [dA,← HN.out]; exact Nat.le_refl _)).1 (by rw [dA,← HN.out]; exact hbh)
     have hrg:=yR hx1 hx2
     have hcf:=vX w.heap.size (some ⟨b,o,none⟩) c l w1 (H.out.nod.below HB1.out) (by rw [← HN.out]; exact HBX1.out) (by rw [← HN.out]; exact hll) (fun g hg=>⟨(HK.out g hg).1,(HK.out g hg).2,fun k hk=>by have:=hrg g.1 (List.mem_map.2 ⟨g,hg,rfl⟩) k hk; rw [dA] at this; exact this⟩)
     rw [← HN.out] at hcf
     have HCF:=Lib.hid hcf; have HX1:=Lib.hid hx1; have HX2:=Lib.hid hx2
     clear hbh hx1 hx2 hrg hcf
     unfold bvV
     simp only [Option.getD_some,Option.isSome_some]
     go_wp2_with fail
     refine HCF.out.mono ?_
     rintro e w2 ⟨⟨bb,rfl,hbb⟩,hb2⟩
     have HB2:=Lib.hid (ag HB1.out hb2)
     have hbx2:Blk w2 w.heap.size 24 #[.slice (some ⟨b,o,none⟩) q c]:=(hb2.block _ lc0).trans HBX1.out
     have c1:w2.cell? ⟨w.heap.size,0,none⟩=some (.slice (some ⟨b,o,none⟩) q c):=hbx2.cell 0
     have lc1:=aa c1
     have HBX2:=Lib.hid hbx2
     clear hb2 hbx2 c0 lc0
     cases bb with
     | true =>
      have HNO:Hid (¬ iX (gns l)):=Lib.hid (fun ⟨x,hx,_⟩=>by
       obtain ⟨_,_,hh⟩:=hx.all
       have:=hbb.2 hh; cases this)
      clear hbb
      go_wp2_with fail
      go_ret
      exact⟨⟨false,rfl,fun h=>(by cases h),fun h=>absurd h HNO.out⟩,HB2.out⟩
     | false =>
      have hall:=hbb.1 rfl
      have hsh:df (gns l) x:=CX HX1.out HX2.out HG0.out HK1.out hall
      have hwt:=HT.out x hsh
      have htl:(dC x).length≤65536:=Nat.le_trans (kg _) hwt
      have HTL:=Lib.hid htl
      obtain ⟨S,hS⟩:∃ S:ByteArray,S=⟨(dC x).toArray⟩:=⟨_,rfl⟩
      have hSd:S.data.toList=dC x:=by rw [hS]
      have hSz:S.size=(dC x).length:=by rw [← bB,hSd]
      have htx:=wL (H.out.below HB2.out) c x hsh (by omega)
      rw [← hS,← HN.out] at htx
      have HTXT:=Lib.hid htx
      have HSH:=Lib.hid hsh; have HSD:=Lib.hid hSd
      obtain ⟨m,hm⟩:∃ m,m=(dC x).length:=⟨_,rfl⟩
      rw [← hm] at hSz htl
      clear hbb hall hsh hwt hS hSd htx hm
      go_wp2_with fail
      refine HTXT.out.mono ?_
      rintro e w3 ⟨rfl,hb3⟩
      have HB3:=Lib.hid (ag HB2.out hb3)
      have hbx3:Blk w3 w.heap.size 24 #[.slice (some ⟨b,o,none⟩) q c]:=(hb3.block _ lc1).trans HBX2.out
      have HBX3:=Lib.hid hbx3
      clear hb3 hbx3 c1 lc1
      have HMX:Hid (∃ m,w3.cell? ⟨3,0,none⟩=some (.int .i64 m)):=Lib.hid ((H.out.below HB3.out).max)
      go_wp2_with fail
      refine (yS w3 S m _ hSz htl (HE.out.below HB3.out) HMX.out).mono ?_
      rintro e w4 ⟨⟨w5,hw5,hpo⟩,hb4⟩
      have HB4:=Lib.hid (ag HB3.out hb4)
      have hbx4:Blk w4 w.heap.size 24 #[.slice (some ⟨b,o,none⟩) q c]:=(hb4.block _ HBX3.out.lt).trans HBX3.out
      have c4:w4.cell? ⟨w.heap.size,0,none⟩=some (.slice (some ⟨b,o,none⟩) q c):=hbx4.cell 0
      have lc4:=aa c4
      rw [HSD.out] at hpo
      unfold fM at hpo
      clear hb4 hbx4 kS
      cases hps:bD (dC x) with
      | error pe =>
       obtain ⟨p,er⟩:=pe
       rw [hps] at hpo
       simp only at hpo
       subst hpo
       have HNO:Hid (¬ iX (gns l)):=Lib.hid (fun hr=>by
        obtain ⟨bs,x',h1,h2,_⟩:=HSH.out.right.1 hr
        unfold bD at hps
        rw [h1] at hps
        simp only at hps
        rw [h2] at hps; cases hps)
       have e3:(er == 0)=false:=by rcases nT hps with rfl | rfl | rfl | rfl <;> rfl
       clear hps
       go_wp2_with fail
       go_ret
       exact⟨⟨false,rfl,fun h=>(by cases h),fun h=>absurd h HNO.out⟩,HB4.out.alloc (by have:=HB4.out.size; omega) _⟩
      | ok x' =>
       rw [hps] at hpo
       obtain ⟨v,rfl,hv⟩:=hpo
       obtain ⟨A7,c7,l7,rfl,hnod,hgn,hlen7⟩:=hv.nod
       obtain ⟨bs,hbs1,hbs2⟩:∃ bs,fZ (dC x)=.ok bs∧progS bs=.ok x':=by
        unfold bD at hps
        cases hl:fZ (dC x) with
        | error e=>rw [hl] at hps; cases hps
        | ok bs=>rw [hl] at hps; exact⟨bs,rfl,hps⟩
       have HEQ:Hid (iX (gns l)↔iE (gns l7) (gns l)):=Lib.hid (by
        rw [hgn,HSH.out.right]
        constructor
        ·rintro ⟨cs,x2,h1,h2,h3⟩
         rw [hbs1] at h1; injection h1 with h1; subst h1
         rw [hbs2] at h2; injection h2 with h2; subst h2
         exact wR (oo _) HSH.out.at0 h3 (by rw [List.length_map,iK]) HSH.out.len
        ·intro hs
         exact⟨bs,x',hbs1,hbs2,sS hs (oo _) HSH.out.at0⟩)
       have hsz:=vg hbs1 hbs2
       have htl2:=HTL.out
       have hbw:Below w4.heap.size w4 (w4.alloc (.cells #[.slice A7 l7.length c7] 24)):=(Below.refl _ _).alloc (Nat.le_refl _) _
       have hsame:=Gp A7 (some ⟨b,o,none⟩) c7 c l7 l (w4.alloc (.cells #[.slice A7 l7.length c7] 24)) (hnod.below hbw) ((H.out.nod.below HB4.out).below hbw) (by omega) (by rw [← HN.out]; exact hll) (fun g hg=>by have:=qP hgn g hg; omega) (fun g hg=>(HK.out g hg).1)
       rw [← HN.out] at hsame
       have HS:=Lib.hid hsame; have HBW:=Lib.hid (ag HB4.out hbw)
       obtain ⟨n7,hn7⟩:∃ n7,n7=l7.length:=⟨_,rfl⟩
       rw [← hn7] at HS HBW ⊢
       clear hps hv hnod hgn hlen7 hbs1 hbs2 hsz htl2 hbw hsame hn7
       go_wp2_with fail
       refine HS.out.mono ?_
       rintro e w6 ⟨rfl,hb6⟩
       have HB6:=Lib.hid (ag HBW.out hb6)
       clear hb6
       go_wp2_with fail
       go_ret
       exact⟨⟨_,rfl,by rw [decide_eq_true_iff]; exact HEQ.out.symm⟩,HB6.out⟩
theorem Ed {w:World} {A:Option Addr} {l:List PV} (h:dY w A l) (he:EW w) (c:Nat) (hk:∀ g∈l,g.1.kids.length≤1000000∧g.1.text.length≤1000000) (hT:∀ x,df (gns l) x→wt (gM x)≤65536) :
  Calls Tryz.prog 18 #[.agg #[.slice A l.length c]] w fun e w'=>((¬ iX (gns l)∧e=.returned (.tuple #[.slice none 0 0,.int .i64 2]))∨(∃ x Ad cd,df (gns l) x∧mG x∧e=.returned (.tuple #[.slice Ad (dC x).length cd,.int .i64 0])∧eP w' Ad (dC x)))∧Below w.heap.size w w':=by
 have hb0:Below w.heap.size w (w.alloc (.cells #[.slice A l.length c] 24)):=(Below.refl _ _).alloc (Nat.le_refl _) _
 have hbx:Blk (w.alloc (.cells #[.slice A l.length c] 24)) w.heap.size 24 #[.slice A l.length c]:=Blk.new w 24 _
 have HC:=Lib.hid (uI (h.below hb0) (he.below hb0) c hk hT)
 have H:=Lib.hid h; have HT:=Lib.hid hT; have HB0:=Lib.hid hb0; have HBX:=Lib.hid hbx
 have kS:=fun W s=>Lib.run_convert_string_bytes (P:=Tryz.prog) W 9 30 5 s (u:=.string) Tryz.underlying9 Tryz.underlying30 Tryz.underlying5
 obtain ⟨n,hn⟩:∃ n,n=l.length:=⟨_,rfl⟩
 have HN:=Lib.hid hn
 rw [← hn] at HC HB0 HBX ⊢
 clear h he hk hT hb0 hbx hn
 go_enter Tryz.func18,Tryz.ntmps18
 go_wp2_with fail
 refine HC.out.mono ?_
 rintro e w1 ⟨⟨b,rfl,hb⟩,hb1⟩
 have HB1:=Lib.hid (ag HB0.out hb1)
 have hbx1:Blk w1 w.heap.size 24 #[.slice A n c]:=(hb1.block _ (by simp)).trans HBX.out
 have c0:w1.cell? ⟨w.heap.size,0,none⟩=some (.slice A n c):=hbx1.cell 0
 have lc0:=aa c0
 clear hb1 hbx1
 cases b with
 | false =>
  have HNO:Hid (¬ iX (gns l)):=Lib.hid (fun hr=>by have:=hb.2 hr; cases this)
  clear hb
  go_wp2_with fail
  go_ret2
  exact⟨Or.inl ⟨HNO.out,rfl⟩,HB1.out⟩
 | true =>
  obtain ⟨x,hsh,hrx⟩:=hb.1 rfl
  have hwt:=HT.out x hsh
  have htl:(dC x).length≤65536:=Nat.le_trans (kg _) hwt
  obtain ⟨S,hS⟩:∃ S:ByteArray,S=⟨(dC x).toArray⟩:=⟨_,rfl⟩
  have hSd:S.data.toList=dC x:=by rw [hS]
  have hSz:S.size=(dC x).length:=by rw [← bB,hSd]
  have htx:=wL (H.out.below HB1.out) c x hsh (by omega)
  rw [← hS,← HN.out] at htx
  have HTXT:=Lib.hid htx
  have HSH:=Lib.hid (And.intro hsh hrx); have HSD:=Lib.hid hSd; have HSZ:=Lib.hid hSz
  have hsl:S.size≤65536:=by omega
  clear hb hsh hrx hwt hS hSd htx hSz htl
  go_wp2_with fail
  refine HTXT.out.mono ?_
  rintro e w3 ⟨rfl,hb3⟩
  have HB3:=Lib.hid (ag HB1.out hb3)
  clear hb3 c0 lc0
  go_wp2_with fail
  go_ret2
  have hby:=rV w3 S
  rw [HSD.out] at hby
  refine⟨Or.inr ⟨x,some ⟨w3.heap.size,0,none⟩,grownCap w3 S.size 0 5,HSH.out.1,HSH.out.2,?_,hby⟩,ag HB3.out (Lib.bytesWorld_below w3 5 S)⟩
  rw [← HSZ.out]
  rfl
end Go.Proofs.YtkkeocnnecegbaaGreatDoor
namespace Go.Proofs.YtkkeocnnecegbaaGreatDoor
open Go.RowKit
end Go.Proofs.YtkkeocnnecegbaaGreatDoor
namespace Go.Proofs.YtkkeocnnecegbaaGreatDoor
open Go.RowKit
structure om (w:World):Prop where
 ew:EW w
 tab:nY w
 mx:∃ m,w.cell? ⟨3,0,none⟩=some (.int .i64 m)
theorem om.below {w w':World} (h:om w) (hb:Below w.heap.size w w'):om w' :=
 ⟨h.ew.below hb,h.tab.below hb,by obtain ⟨m,hm⟩:=h.mx; exact⟨m,(hb.cell (p:=⟨3,0,none⟩) (aa hm)).trans hm⟩⟩
def PT (w:World) (A:Option Addr) (n:Nat) (x:Item) (K:Nat):Prop:=∃ l:List PV,n=l.length∧bg w A l∧gns l=(flat 0 x).map gn∧l.length=sizeI x∧df (gns l) x∧mG x∧wt (gM x)≤K
theorem PT.below {w w':World} {A:Option Addr} {n:Nat} {x:Item} {K:Nat} (h:PT w A n x K) (hb:Below w.heap.size w w'):PT w' A n x K:=by
 obtain ⟨l,h1,h2,h3⟩:=h
 exact⟨l,h1,h2.below hb,h3⟩
theorem PT.small {w:World} {A:Option Addr} {n:Nat} {x:Item} {K:Nat} (h:PT w A n x K):n≤K+1:=by
 obtain ⟨l,h1,h2,h3,h4,h5,h6,h7⟩:=h
 have:=tZ h5.wp.1
 omega
theorem PT.pos {w:World} {A:Option Addr} {n:Nat} {x:Item} {K:Nat} (h:PT w A n x K):0<n:=by
 obtain ⟨l,h1,h2,h3,h4,_⟩:=h
 have:=aW x
 omega
theorem KD {w:World} {B:Nat} {v:Value} {src:List UInt8} {x:Item} (h:qo w B v x) (hp:bD src=.ok x):∃ A n c,v=.slice A n c∧PT w A n x (2*src.length+1):=by
 obtain ⟨A,c,l,rfl,h1,h2,h3⟩:=h.nod
 obtain ⟨g1,g2,g3,_⟩:=vI hp
 exact⟨A,_,c,rfl,l,rfl,h1,h2,h3,by rw [h2]; exact g1,g2,g3⟩
theorem qZ (A:Option Addr) (c:Nat) (src:List UInt8) (x:Item) (w:World) (hn:src.length≤65536) (hl:eP w A src) (he:om w) (h:bD src=.ok x) :
  Calls Tryz.prog 24 #[.slice A src.length c] w fun e w'=>(∃ A1 n1 c1,e=.returned (.tuple #[.agg #[.slice A1 n1 c1],.int .i64 0,.int .i64 0])∧PT w' A1 n1 x (2*src.length+1))∧Below w.heap.size w w' :=
 (pI A c src w hn hl he.ew he.mx).mono (by
  rintro e w' ⟨ho,hb⟩
  unfold fM at ho
  rw [h] at ho
  obtain ⟨v,rfl,hv⟩:=ho
  obtain ⟨A1,n1,c1,rfl,hp⟩:=KD hv h
  exact⟨⟨A1,n1,c1,rfl,hp⟩,hb⟩)
theorem uC (A:Option Addr) (c:Nat) (src:List UInt8) (p:Nat) (er:Int) (w:World) (hn:src.length≤65536) (hl:eP w A src) (he:om w) (h:bD src=.error (p,er)) :
  Calls Tryz.prog 24 #[.slice A src.length c] w fun e w'=>e=.returned (.tuple #[.agg #[.slice none 0 0],.int .i64 p,.int .i64 er])∧Below w.heap.size w w' :=
 (pI A c src w hn hl he.ew he.mx).mono (by
  rintro e w' ⟨ho,hb⟩
  unfold fM at ho
  rw [h] at ho
  exact⟨ho,hb⟩)
theorem PT.asks {w:World} {A:Option Addr} {n:Nat} {x:Item} {K:Nat} (h:PT w A n x K) (he:om w) (hK:K≤60000):∃ l:List PV,n=l.length∧dY w A l∧df (gns l) x∧mG x∧(∀ g∈l,g.1.kids.length≤1000000∧g.1.text.length≤1000000)∧(∀ y,df (gns l) y→wt (gM y)≤65536):=by
 have hs:=h.small
 obtain ⟨l,h1,h2,h3,h4,h5,h6,h7⟩:=h
 refine⟨l,h1,⟨h2,he.tab,he.mx,by omega⟩,h5,h6,fun g hg=>⟨?_,?_⟩,fun y hy=>?_⟩
 ·have:=qP h3 g hg; omega
 ·have hm:=wD x 0 (xw h5.wp.1 h7)
  have:g.1∈gns l:=List.mem_map.2 ⟨g,hg,rfl⟩
  rw [h3] at this
  obtain ⟨q,hq,he⟩:=List.mem_map.1 this
  have:=hm q hq
  rw [← he]
  show q.text.length≤1000000
  omega
 ·rw [uV hy.wp.1 h5.wp.1 (hy.uniq h5)]; omega
theorem Ey {w:World} {A:Option Addr} {n:Nat} {x:Item} {K:Nat} (h:PT w A n x K) (he:om w) (hK:K≤60000) (c:Nat) :
  Calls Tryz.prog 18 #[.agg #[.slice A n c]] w fun e w'=>(∃ Ad cd,e=.returned (.tuple #[.slice Ad (dC x).length cd,.int .i64 0])∧eP w' Ad (dC x))∧Below w.heap.size w w':=by
 obtain ⟨l,rfl,h1,h2,h3,h4,h5⟩:=h.asks he hK
 refine (Ed h1 he.ew c h4 h5).mono ?_
 rintro e w' ⟨ho,hb⟩
 refine⟨?_,hb⟩
 rcases ho with ⟨hno,_⟩ | ⟨y,Ad,cd,hy,_,rfl,hby⟩
 ·exact absurd ⟨x,h2,h3⟩ hno
 ·have htx:dC y=dC x:=hy.text h2 (hy.uniq h2)
  rw [htx] at hby ⊢
  exact⟨Ad,cd,rfl,hby⟩
theorem Cu {w:World} {A:Option Addr} {n:Nat} {x:Item} {K:Nat} (h:PT w A n x K) (he:om w) (hK:K≤60000) (c:Nat) :
  Calls Tryz.prog 19 #[.agg #[.slice A n c]] w fun e w'=>e=.returned (.bool true)∧Below w.heap.size w w':=by
 obtain ⟨l,rfl,h1,h2,h3,h4,h5⟩:=h.asks he hK
 refine (uI h1 he.ew c h4 h5).mono ?_
 rintro e w' ⟨⟨b,rfl,hb⟩,hbw⟩
 obtain rfl:b=true:=hb.2 ⟨x,h2,h3⟩
 exact⟨rfl,hbw⟩
end Go.Proofs.YtkkeocnnecegbaaGreatDoor
namespace Go.Proofs.YtkkeocnnecegbaaGreatDoor
open Go.ChangeShapes Go.WideShapes Go.ChangeAt Go.RowKit Go.Deep
theorem cells5:Tryz.prog.cellsOf 5=1:=by kernel_rfl
theorem JR:Tryz.prog.cellsOf 9=1:=by kernel_rfl
theorem Hf:Tryz.prog.cellsOf 274=1:=by kernel_rfl
theorem gR:Tryz.prog.globalNamed "strconv.ErrRange" = some 2:=by kernel_rfl
theorem Ju:(Tryz.prog.globals[2]?).map (·.type)=some 108:=by kernel_rfl
theorem star : "*" ++ "errors.errorString" = "*errors.errorString":=by decide
theorem J5 (u:TypeId) (h:Tryz.prog.typeName? 3 u=some "*errors.errorString"):u=272 :=
 typeName_ptr_named (nm := "errors.errorString") (by rw [star]; kernel_rfl) (by kernel_rfl) (by decide) u (by rw [star]; exact h)
theorem zA {W:World} {rest:List (String×DataW Unit)} (h:laidMet Tryz.prog (("strconv.ErrRange",Rows.laid_strconv_ErrRange) :: rest) W):EW W:=by
 obtain ⟨a,s,hv,_,_,_⟩:=laid_sentinel h gR Ju Tryz.underlying108 J5 Tryz.underlying272 Tryz.underlying274 rfl rfl Tryz.underlying9 Hf JR
 exact⟨_,by simpa using World.var?_cell gR hv 0,Or.inr ⟨_,_,rfl⟩⟩
theorem F8:(Tryz.prog.globals[4]?).map (·.type)=some 284:=by kernel_rfl
theorem FN:Tryz.prog.cellsOf 284=20:=by kernel_rfl
theorem Ff:Tryz.prog.cellsOf 106=1:=by kernel_rfl
theorem Hw:(Rows.laid_internal_strconv_uint64pow10:DataW Unit)=Lib.tabData .u64 Lib.pow10Tab:=by kernel_rfl
theorem zn {W:World} {rest:List (String×DataW Unit)} (h:laidMet Tryz.prog (("internal/strconv.uint64pow10",Rows.laid_internal_strconv_uint64pow10) :: rest) W):nY W:=by
 rw [Hw] at h
 exact Lib.tabIs_of_head G6 F8 Tryz.underlying284 Tryz.underlying106 Ff FN h
theorem wT {W:World} (h:W.ShapedOpen Tryz.prog):∃ m,W.cell? ⟨3,0,none⟩=some (.int .i64 m) :=
 cell_of_shapedOpen_int (t:=3) (zero:=#[.int .i64 0]) h (of_decide_eq_true (by kernel_rfl)) (by kernel_rfl) rfl (by kernel_rfl) (by kernel_rfl) Tryz.underlying3
theorem CF {H:Type} {enc:TypeId×Value→H} {w:World} {base b0:Nat} {spare:Nat→Bool} {held:Bool} {r:Reach} {v:Value} {d:DataW H} {p:List MemPlace}
  (hv:Value.okWide Tryz.prog w r b0 30 v) (h:DataW.Trod enc Tryz.prog w base spare held 30 v d p) :
  ∃ (a:Option Addr) (l:List UInt8) (c:Nat),v=.slice a l.length c∧l.length≤c∧c≤maxLen∧eP w a l:=by
 obtain ⟨a0,len0,cap0,rfl⟩:=okWide_slice Tryz.underlying30 hv
 obtain ⟨fuel,hf⟩:=h
 rcases open_slice Tryz.underlying30 hf with ⟨hcs,_⟩ | ⟨a,len,cap,m,n,D,Pl,hcs,hb,hlc,hcm,hm,_,hi⟩
 ·simp [Value.cells] at hcs
  obtain ⟨rfl,rfl,rfl⟩:=hcs
  exact⟨none,[],0,rfl,Nat.le_refl _,Nat.zero_le _,Or.inl ⟨rfl,trivial⟩⟩
 ·simp [Value.cells] at hcs
  obtain ⟨rfl,rfl,rfl⟩:=hcs
  have hlm:len0≤m:=by rw [hm]; split <;> omega
  have hev:∀ i,∃ k:UInt8,i<len0→w.cell? (a.add i)=some (.int .u8 k.toNat):=by
   intro i
   by_cases hil:i<len0
   ·have h1:=hi i (by omega)
    rw [cells5] at h1
    obtain ⟨cs,hc,ht⟩:=h1
    obtain ⟨_,hl,hat⟩:=World.cells?_some hc
    obtain ⟨k,e0,_,w0⟩:=DataW.trod_int Tryz.underlying5 ht
    obtain ⟨hk1,hk2⟩:0≤k∧k≤255:=bounds_u8 w0
    subst e0
    refine⟨UInt8.ofNat k.toNat,fun _=>?_⟩
    have h2:=hat 0 (by first | omega | simp | decide)
    have e:((UInt8.ofNat k.toNat).toNat:Int)=k:=by
     rw [UInt8.toNat_ofNat_of_lt' (by show k.toNat<256; omega)]; omega
    rw [e]
    simpa [Addr.add] using h2
   ·exact⟨0,fun h=>absurd h hil⟩
  obtain ⟨f,hfe⟩:=Classical.axiomOfChoice hev
  have hlen:((List.range len0).map f).length=len0:=by simp
  refine⟨some a,(List.range len0).map f,cap0,by rw [hlen],by rw [hlen]; exact hlc,hcm,?_⟩
  by_cases h0:len0=0
  ·subst h0; exact Or.inl ⟨rfl,trivial⟩
  ·have hz:=hfe 0 (by omega)
   obtain ⟨b,o,sp⟩:=a
   have hsp:sp=none:=by
    simp only [Addr.add,if_true] at hz
    unfold World.cell? at hz
    cases sp with
    | none=>rfl
    | some q=>split at hz <;> simp_all
   subst hsp
   refine Or.inr ⟨b,o,rfl,fun i hi=>?_⟩
   rw [hlen] at hi
   have:=hfe i hi
   rw [List.getElem_map,List.getElem_range]
   by_cases hz:i=0
   ·subst hz; simpa [Addr.add] using this
   ·rw [Addr.add,if_neg (by omega)] at this; exact this
theorem CQ {H:Type} {enc:TypeId×Value→H} {t:TypeId} (hr:Tryz.prog.readableRec t=true) (hrow:t<Tryz.prog.types.size) {W W':World} {v:Value} {d:DataW H} {ps before:List MemPlace} {sp:Nat→Bool}
  (h:DataW.Trod enc Tryz.prog W 0 (fun _=>true) true t v d ps) (hb:Below W.heap.size W W') (hsub:∀ x∈ps,x∈before) (hlt:∀ x∈before,x.block<W.heap.size) (hs:∀ x∈before,sp x.block=true) :
  DataW.Trod enc Tryz.prog W' 0 sp true t v d ps :=
 WideElems.Trod_stays (by kernel_rfl) hr hrow h (fun x hx=>hb.same (hlt x (hsub x hx))) (fun x hx=>hs x (hsub x hx))
theorem own:ownKnob Tryz.prog.godebug=none:=by kernel_rfl
noncomputable def put (g:Nat) (cs:Array Value) (h:Array Obj):Array Obj:=h.modify g fun
   | .cells _ t frozen=>.cells cs t frozen
   | o=>o
def nS:List (DataW Unit)→Array Value:=fun l=>(l.map fun d=>match d with | .lit (.int k n)=>Value.int k n | .lit (.string b)=>Value.string ⟨b.toArray⟩ | _=>undef).toArray
def parts:DataW Unit→List (DataW Unit) | .agg l=>l | _=>[]
abbrev J7:ByteArray:={ data:=#[118,97,108,117,101,32,111,117,116,32,111,102,32,114,97,110,103,101] }
abbrev IL:ByteArray:={ data:=#[105,110,118,97,108,105,100,32,115,121,110,116,97,120] }
noncomputable def low:Nat:=(World.holding Tryz.prog default ⟨#[],#[],[]⟩).heap.size
noncomputable def uX (os:Os):World :=
 let w0:=World.holding Tryz.prog os ⟨#[.cells #[.string J7] 274,.cells #[.string IL] 274],#[],[]⟩
 { w0 with heap:=put 7 (nS (parts Rows.laid_unicode_utf8_first)) (put 8 (nS ((parts Rows.laid_unicode_utf8_acceptRanges).flatMap parts)) (put 6 (nS (parts Rows.laid_math_bits_deBruijn64tab)) (put 5 (nS (parts Rows.laid_math_bits_deBruijn32tab)) (put 4 (nS (parts Rows.laid_internal_strconv_uint64pow10))
   (put 2 #[.iface 272 (.pointer (some ⟨low,0,none⟩))] (put 1 #[.iface 272 (.pointer (some ⟨low+1,0,none⟩))] w0.heap)))))) }
end Go.Proofs.YtkkeocnnecegbaaGreatDoor
