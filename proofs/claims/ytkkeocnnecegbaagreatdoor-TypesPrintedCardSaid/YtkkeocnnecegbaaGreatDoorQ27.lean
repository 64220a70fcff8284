/- Joint text: WGood, WGood2, WGood3, WGood4, WMore, TV, TP, TR. By an AI agent. -/
import Derived.Test.YtkkeocnnecegbaaGreatDoorQ23
import Derived.Test.YtkkeocnnecegbaaGreatDoorQ22
import Derived.Test.YtkkeocnnecegbaaGreatDoorQ26
import Derived.Test.YtkkeocnnecegbaaGreatDoorQ21
import Derived.Test.YtkkeocnnecegbaaGreatDoorQ24
set_option linter.all false
set_option maxRecDepth 100000
set_option maxHeartbeats 64000000
namespace Go.Proofs.YtkkeocnnecegbaaGreatDoor
section
variable {own na:Nat} {ps of:List Int} {B:List Nat}
theorem CU:∀ {l:List Item},WXs l→∀ y∈l,WX y
 | [],_,y,hy=>by simp at hy
 | x :: r,h,y,hy=>by
  rcases List.mem_cons.1 hy with rfl | hy
  ·exact h.1
  ·exact CU h.2 y hy
end
end Go.Proofs.YtkkeocnnecegbaaGreatDoor
namespace Go.Proofs.YtkkeocnnecegbaaGreatDoor
mutual
def CW:Item→Prop
 | .mk k _ _ _ ks=>(k=15→∃ tc nc pc r,ks=.mk 16 tc nc pc [] :: r)∧CWL ks
def CWL:List Item→Prop
 | []=>True
 | x :: r=>CW x∧CWL r
end
theorem ig:∀ {ks:List Item},(∀ y∈ks,CW y)→CWL ks
 | [],_=>by unfold CWL; trivial
 | x :: r,h=>by
  unfold CWL
  exact⟨h x (List.mem_cons_self ..),ig (fun y hy=>h y (List.mem_cons_of_mem _ hy))⟩
theorem ru:∀ (N:Nat) (x:Item),sizeI x≤N→WX x→CW x
 | 0,x,hN,_=>by have:=aW x; omega
 | N+1,x,hN,hx=>by
  rcases fV hx with ⟨n,a,rfl⟩ | ⟨t,a,rfl⟩ | ⟨t,a,y,rfl,hy⟩ | ⟨n,a,y,rfl,_,hy⟩ | ⟨n,a,y,z,rfl,_,_,hy,hz⟩
  ·unfold CW; exact⟨fun h=>by omega,ig (fun y hy=>by simp at hy)⟩
  ·unfold CW; exact⟨fun h=>by omega,ig (fun y hy=>by simp at hy)⟩
  ·simp only [sizeI,sizeL] at hN
   unfold CW; exact⟨fun h=>by omega,ig (fun u hu=>by simp only [List.mem_singleton] at hu; subst hu; exact ru N _ (by omega) hy)⟩
  ·simp only [sizeI,sizeL] at hN
   unfold CW; exact⟨fun h=>by omega,ig (fun u hu=>by simp only [List.mem_singleton] at hu; subst hu; exact ru N _ (by omega) hy)⟩
  ·simp only [sizeI,sizeL] at hN
   unfold CW; exact⟨fun h=>by omega,ig (fun u hu=>by
    simp only [List.mem_cons,List.not_mem_nil,or_false] at hu
    rcases hu with rfl | rfl
    ·exact ru N _ (by omega) hy
    ·exact ru N _ (by omega) hz)⟩
theorem lI {x:Item} (h:WX x):CW x:=ru _ x (Nat.le_refl _) h
theorem pY:∀ (N:Nat) (b:Bool) (x:Item),sizeI x≤N→WS b x→CW x
 | 0,b,x,hN,_=>by have:=aW x; omega
 | N+1,b,x,hN,hx=>by
  have two:∀ {y z:Item},CW y→CW z→CWL [y,z]:=fun h1 h2=>by unfold CWL CWL CWL; exact⟨h1,h2,trivial⟩
  have one:∀ {y:Item},CW y→CWL [y]:=fun h1=>by unfold CWL CWL; exact⟨h1,trivial⟩
  cases hx with
  | block a l hl =>
   unfold CW
   exact⟨fun h=>by omega,ig (fun y hy=>pY N true y (by have:=iR hy; simp only [sizeI] at hN; omega) (hl y hy))⟩
  | declare t a x hx=>unfold CW; exact⟨fun h=>by omega,one (lI hx)⟩
  | assign t a x hx=>unfold CW; exact⟨fun h=>by omega,one (lI hx)⟩
  | store t a x y hx hy=>unfold CW; exact⟨fun h=>by omega,two (lI hx) (lI hy)⟩
  | if1 a x b hx hb =>
   simp only [sizeI,sizeL] at hN
   unfold CW; exact⟨fun h=>by omega,two (lI hx) (pY N false b (by omega) hb)⟩
  | if2 a x b c hx hb hc =>
   simp only [sizeI,sizeL] at hN
   unfold CW
   refine⟨fun h=>by omega,?_⟩
   unfold CWL
   exact⟨lI hx,two (pY N false b (by omega) hb) (pY N false c (by omega) hc)⟩
  | for1 a x b hx hb =>
   simp only [sizeI,sizeL] at hN
   unfold CW; exact⟨fun h=>by omega,two (lI hx) (pY N false b (by omega) hb)⟩
  | ret k a x hk hx=>unfold CW; exact⟨fun h=>by omega,one (lI hx)⟩
  | read t a=>unfold CW; exact⟨fun h=>by omega,ig (fun y hy=>by simp at hy)⟩
  | call t a u b l hl =>
   unfold CW
   refine⟨fun _=>⟨u,0,b,l,rfl⟩,?_⟩
   unfold CWL
   refine⟨?_,ig (fun y hy=>lI (CU hl y hy))⟩
   unfold CW
   exact⟨fun h=>by omega,ig (fun y hy=>by simp at hy)⟩
theorem KC {x:Item} (h:WD x):CW x:=by
 cases h with
 | array t n a=>unfold CW; exact⟨fun h=>by omega,ig (fun y hy=>by simp at hy)⟩
 | func t a l b hl hb =>
  unfold CW
  refine⟨fun h=>by omega,ig (fun y hy=>?_)⟩
  rcases List.mem_append.1 hy with hy | hy
  ·have:=hl y hy
   obtain ⟨k,t,n,p,ks⟩:=y
   unfold WN at this
   obtain ⟨rfl,_,rfl⟩:=this
   unfold CW; exact⟨fun h=>by omega,ig (fun y hy=>by simp at hy)⟩
  ·simp only [List.mem_singleton] at hy; subst hy; exact pY _ false _ (Nat.le_refl _) hb
end Go.Proofs.YtkkeocnnecegbaaGreatDoor
namespace Go.Proofs.YtkkeocnnecegbaaGreatDoor
open Go.RowKit
mutual
theorem Ic:∀ {x:Item},CW x→CO x
 | .mk k t n p ks,h=>by unfold CW at h; unfold CO; exact⟨h.1,zY h.2⟩
theorem zY:∀ {l:List Item},CWL l→COL l
 | [],_=>by unfold COL; trivial
 | x :: r,h=>by unfold CWL at h; unfold COL; exact⟨Ic h.1,zY h.2⟩
end
theorem wO (j v:Nat) (l:List FnS):(bM j v l).map (·.root)=l.map (·.root):=by
 apply List.ext_getElem?
 intro i
 unfold bM
 rw [List.getElem?_map,List.getElem?_map,List.getElem?_modify]
 cases l[i]? with
 | none=>rfl
 | some f=>simp only [Option.map_some]; split <;> rfl
theorem EX (w0:World) (n cc:Nat) (A:Option Addr) (l:List PV) (hT:bg w0 A l) (hn:n=l.length) (R OB B:Nat) (mn:Int) (va vf vs:Value) (s:TS) (i:Nat) (y:Item) (w:World) (hk:WD y) (hat:AtI (gns l) i y) (hW:TW w0 w R OB B) (h:StT w R OB B n cc A mn s va vf vs) (hal:s.ak.length≤900000) (hfl:s.fns.length≤900000) (hkl:sizeI y≤900000) (htl:(dD y).length≤900000) :
  Calls Tryz.prog 113 #[.pointer (some ⟨R,0,none⟩),.int .i64 i] w (tK R OB B n cc A l mn vs s w (headT i y s)):=by
 obtain ⟨k,t,nn,pp,ks⟩:=y
 have hkk:ks.length≤900000:=by have:=jZ ks; simp only [sizeI] at hkl; omega
 cases hk with
 | array t n a=>exact Gu w0 _ cc A l hT hn R OB B mn va vf vs s i t nn pp [] w hat hW h hal hfl (by simp) htl
 | func t a l b hl hb=>exact Jg w0 _ cc A _ hT hn R OB B mn va vf vs s i t 0 pp _ w hat hW h hal hfl hkk htl
theorem yl {s t:TS} (h:t.fns.map (·.name)=s.fns.map (·.name)):t.eB=s.eB:=by
 have key:∀ (l:List FnS),dm (·.name) oF l=dm (fun a=>a) oF (l.map (·.name)):=fun l=>by
  unfold dm
  rw [List.findIdx?_map]; rfl
 show dm _ _ _=dm _ _ _
 rw [key,key,h]
theorem Ao:∀ {l:List Item},CWL l→∀ y∈l,CW y
 | [],_,y,hy=>by simp at hy
 | x :: r,h,y,hy=>by
  unfold CWL at h
  rcases List.mem_cons.1 hy with rfl | hy
  ·exact h.1
  ·exact Ao h.2 y hy
def zX (R OB B n c:Nat) (A:Option Addr) (l:List PV) (x:Item) (w:World) (e:Ending) (w':World):Prop :=
 FrY R OB B w w'∧∃ s' mn va vf vs v,StT w' R OB B n c A mn s' va vf vs∧e=.returned v∧xJ l w' R OB (bu x) s' v∧(∀ s,bu x=.ok s→mn=s.eB)
theorem yT (w0:World) (n cc:Nat) (A:Option Addr) (l:List PV) (hT:bg w0 A l) (hn:n=l.length) (R OB B p:Nat) (ks:List Item) (hwd:∀ y∈ks,WD y) (hat:AtI (gns l) 0 (.mk 1 [] 0 p ks)) (hsz:sizeL ks≤800000) (htx:∀ y∈ks,(dD y).length≤900000) (w:World) (hW:TW w0 w R OB B) (h:StT w R OB B n cc A 0 (eF (.mk 1 [] 0 p ks)) (.slice none 0 0) (.slice none 0 0) (.slice none 0 0)) :
  Calls Tryz.prog 66 #[.pointer (some ⟨R,0,none⟩)] w (zX R OB B n cc A l (.mk 1 [] 0 p ks) w):=by
 obtain ⟨⟨a,hgi⟩,hat2⟩:=hat
 obtain ⟨v,hl⟩:=gP hgi
 have hi:0<n:=by rw [hn]; exact (List.getElem?_eq_some_iff.1 hl).1
 obtain ⟨b,o,rfl,x0,x1,x2,x3,x4,A3,c3,hxv0,hc30,hin⟩:=hT.at hl
 have hxv:v=.slice A3 ((offs (0+1) ks).map (fun k:Nat=>(k:Int))).length c3:=hxv0
 clear hxv0 hc30
 rw [List.length_map,aL] at hxv
 subst hxv
 have y4:w.cell? ⟨b,o+4,none⟩=some (.slice A3 ks.length c3):=by
  have:=(hW.below.cell (p:=⟨b,_,none⟩) (aa x4)).trans x4
  simpa using this
 have lb:=aa y4
 have r0:w.cell? ⟨R,0,none⟩=some (.slice (some ⟨b,o,none⟩) n cc):=h.rd.cell 0
 have lR:=h.rd.lt
 have hii:(0:Int)<(n:Int):=by omega
 obtain ⟨m,hm⟩:∃ m,m=ks.length:=⟨_,rfl⟩
 have HM:=Lib.hid hm
 rw [← hm] at y4
 have hml:=jZ ks
 rw [← hm] at hml
 have HT:=Lib.hid hT; have HN:=Lib.hid hn; have HWD:=Lib.hid hwd; have HAT:=Lib.hid hat2; have HTX:=Lib.hid htx; have HW:=Lib.hid hW; have HS:=Lib.hid h; have HIN:=Lib.hid hin
 have HS0:Hid (lM (eF (.mk 1 [] 0 p ks))):=Lib.hid ⟨by simp [eF],fun a ha=>by simp [eF] at ha,by simp [eF],fun a ha=>by simp [eF] at ha⟩
 clear hT hn hl hgi hat2 hin x0 x1 x2 x3 x4 h hW hwd htx hm
 go_enter Tryz.func66,Tryz.ntmps66
 go_wp2_with fail
 go_loopg [19] m (fun gk v wr=>∃ (j:Nat) (s':TS) (va' vf':Value),j≤m∧m - j≤gk∧v=.int .i64 j∧Hid (cO 1 (ks.take j) (eF (.mk 1 [] 0 p ks))=.ok s')∧Hid (StT wr R OB B n cc (some ⟨b,o,none⟩) 0 s' va' vf' (.slice none 0 0))∧Hid (FrY R OB B w wr))
 case atStart=>exact⟨0,_,_,_,Nat.zero_le _,Nat.le_refl _,rfl,Lib.hid rfl,HS,Lib.hid (FrY.refl _ _ _ _)⟩
 case round =>
  obtain ⟨j,s',va',vf',hj,hgk,rfl,HALL,HST,HF⟩:=hrel
  have HH:=Lib.hid (mP HALL.out HS0.out)
  by_cases hlt:j<m
  case pos =>
   have hjk:j<ks.length:=by rw [← HM.out]; exact hlt
   have hst:=oh ks j hjk
   have hji:(j:Int)<(m:Int):=by omega
   have hj0:(0:Int)≤(j:Int):=by omega
   have HW1:=Lib.hid (HW.out.next HF.out)
   have hof:((offs (0+1) ks).map (fun k:Nat=>(k:Int)))[j]? = some ((1+sizeL (ks.take j):Nat):Int):=by rw [List.getElem?_map,jv ks (0+1) j hjk]; rfl
   have hin2:gU w0 A3 ((offs (0+1) ks).map (fun k:Nat=>(k:Int))):=HIN.out
   rcases hin2.below HW1.out.below with h0 | ⟨b4,o4,rfl,h4⟩
   ·exfalso; rw [h0] at hof; simp at hof
   have k4:=h4 j _ hof
   have l4:=aa k4
   have HC:=Lib.hid (EX w0 n cc (some ⟨b,o,none⟩) l HT.out HN.out R OB B 0 va' vf' (.slice none 0 0) s' (1+sizeL (ks.take j)) ks[j] wr (HWD.out _ (List.getElem_mem hjk)) (jQ (o:=0+1) HAT.out j hjk) HW1.out HST.out (by have:=HH.out.1.ak; omega) (by have:=HH.out.1.fns; omega) (by omega) (HTX.out _ (List.getElem_mem hjk)))
   have HT1:=Lib.hid (zM (List.getElem?_eq_getElem hjk) HALL.out)
   obtain ⟨oj,hoj⟩:∃ q,q=1+sizeL (ks.take j):=⟨_,rfl⟩
   rw [← hoj] at HC k4 HT1
   clear h4 hof hoj hin2 hst
   have HJ:=Lib.hid hjk
   go_wp2_with fail
   refine HC.out.mono ?_
   rintro e w4 ⟨hf,s2,va2,vf2,u,hS2,_,_,_,_,rfl,hres⟩
   have HST2:=Lib.hid hS2
   have HF2:=Lib.hid (HF.out.trans hf)
   clear hf hS2 HC
   cases hnode:headT oj (ks[j]'HJ.out) s' with
   | error q =>
    rw [hnode] at hres
    obtain ⟨q1,q2⟩:=q
    obtain ⟨pp,rfl⟩:=aF.isErr hres
    have HRES:Hid (aF l w4 R OB q1 q2 (.iface 121 (.pointer pp))):=Lib.hid hres
    have HE:Hid (bu (.mk 1 [] 0 p ks)=.error (q1,q2)):=Lib.hid (by
     unfold bu
     show andThenT (cO 1 ks _) _=_
     rw [Cz (j:=j+1) (by rw [HT1.out,hnode])]
     rfl)
    clear hres hnode
    go_wp2_with fail
    go_ret
    exact⟨HF2.out,s2,0,va2,vf2,_,_,HST2.out,rfl,by rw [HE.out]; exact HRES.out,fun s hs=>by rw [HE.out] at hs; cases hs⟩
   | ok s1 =>
    rw [hnode] at hres
    obtain ⟨rfl,rfl⟩:=hres
    have HT2:Hid (cO 1 (ks.take (j+1)) (eF (.mk 1 [] 0 p ks))=.ok s2):=Lib.hid (by rw [HT1.out,hnode])
    clear hnode
    go_wp2_with fail
    cases gk with
    | zero=>omega
    | succ gk =>
     go_roundg gk
     case measure=>omega
     case rel=>exact⟨j+1,s2,va2,vf2,by omega,by omega,by simp,HT2,HST2,HF2⟩
  case neg =>
   have hjm:j=m:=by omega
   subst hjm
   have hall:=HALL.out
   rw [List.take_of_length_le (Nat.le_of_eq HM.out.symm)] at hall
   have HHE:=Lib.hid hall
   clear hall HALL HH
   have HH:=Lib.hid (mP HHE.out HS0.out)
   have hla:=HH.out.1.ak; have hlf:=HH.out.1.fns
   have HR:Hid (HeadR 1 ks s'.fns):=Lib.hid (by
    obtain ⟨_,_,_,_,fs,h1,h2⟩:=HH.out
    rw [h1]; exact h2)
   have HSEEN:Hid (s'.seen=[]∧s'.vars=0):=Lib.hid ⟨HH.out.2.1,HH.out.2.2.1⟩
   go_wp2_with fail
   refine (kY HST.out ⟨#[109,97,105,110]⟩ (by omega)).mono ?_
   have hmo0:s'.function (⟨#[109,97,105,110]⟩:ByteArray).data.toList=s'.eB:=rfl
   rw [hmo0]
   obtain ⟨mo,hmo⟩:∃ mo,mo=s'.eB:=⟨_,rfl⟩
   rw [← hmo]
   rintro e w4 ⟨rfl,hb4⟩
   have HMO:=Lib.hid hmo
   have HS4:=Lib.hid (HST.out.below hb4)
   have HF4:Hid (FrY R OB B w w4):=Lib.hid (HF.out.trans (.of hb4))
   clear hmo hmo0 hb4 HST HF
   have k3:w4.cell? ⟨R,3,none⟩=some (.int .i64 0):=HS4.out.rd.cell 3
   have g3:=HS4.out.rd.free 3
   have l3:=HS4.out.rd.lt
   go_upto_region 9 with fail
   have HS5:=Lib.hid (HS4.out.main mo)
   have HF5:Hid (FrY R OB B w (w4.setCell ⟨R,3,none⟩ (.int .i64 mo))):=Lib.hid (HF4.out.tY 3 _)
   clear k3 g3 l3 HS4 HF4
   generalize w4.setCell ⟨R,3,none⟩ (.int .i64 mo)=w5 at *
   have r3:w5.cell? ⟨R,3,none⟩=some (.int .i64 mo):=HS5.out.rd.cell 3
   have lR:=HS5.out.rd.lt
   have hRO:R<w5.heap.size∧OB<w5.heap.size:=⟨HS5.out.rd.lt,HS5.out.obl.lt⟩
   have NM:(∀ w6:World,Below w5.heap.size w5 w6→s'.gF=true→zX R OB B n cc (some ⟨b,o,none⟩) l (.mk 1 [] 0 p ks) w (.returned (.iface 121 (.pointer (some ⟨w6.heap.size,0,none⟩)))) (w6.alloc (.cells #[.int .i64 0,.iface 31 (.int .i64 153)] 126))):=fun w6 hb6 hnm=>by
    have hb7:Below w6.heap.size w6 (w6.alloc (.cells #[.int .i64 0,.iface 31 (.int .i64 153)] 126)):=(Below.refl _ _).alloc (Nat.le_refl _) _
    have HE:bu (.mk 1 [] 0 p ks)=.error (none,153):=by
     unfold bu
     show andThenT (cO 1 ks _) _=_
     rw [HHE.out]
     show (if s'.gF=true then _ else _)=_
     rw [if_pos hnm]
    refine⟨(HF5.out.trans (.of hb6)).trans (.of hb7),s',mo,va',vf',_,_,(HS5.out.below hb6).below hb7,rfl,?_,fun s hs=>by rw [HE] at hs; cases hs⟩
    rw [HE]
    have:=hb6.size
    exact⟨w6.heap.size,0,rfl,by omega,by omega,rfl,Blk.new _ _ _⟩
   have HNM:=Lib.hid NM
   clear NM
   by_cases hneg:mo<0
   case pos =>
    have hb:decide (mo<0)=true:=decide_eq_true hneg
    have HNO:Hid (s'.gF=true):=Lib.hid (by unfold TS.gF; rw [← HMO.out,hb]; rfl)
    go_upto_region 9 with fail
    go_quiet (fail)
    go_wp2_with fail
    go_ret
    exact HNM.out (w5.drewN nq) ⟨rfl,rfl,rfl,Nat.le_refl _,fun _ _=>rfl⟩ HNO.out
   case neg =>
    have hlt2:mo<(s'.fns.length:Int):=by rw [HMO.out]; exact p8 _ _ _ (by have:=HMO.out; unfold TS.eB TS.function at this; omega)
    obtain ⟨k,rfl⟩:=Int.eq_ofNat_of_zero_le (show 0≤mo by omega)
    have hk2:k<s'.fns.length:=by omega
    obtain ⟨f,hf⟩:∃ f,s'.fns[k]? = some f:=⟨_,List.getElem?_eq_getElem hk2⟩
    obtain ⟨g,cap,rfl,hBg,hgl,q0,q1,q2,q3,gfz,_⟩:=HS5.out.AP k f hf
    obtain ⟨m2,hm2⟩:∃ m2,m2=s'.fns.length:=⟨_,rfl⟩
    have HM2:=Lib.hid hm2
    have r2:w5.cell? ⟨R,2,none⟩=some (.slice (some ⟨g,0,none⟩) s'.fns.length cap):=HS5.out.rd.cell 2
    rw [← hm2] at hk2 hlf hlt2 r2
    have hneg1:decide ((k:Int)<0)=false:=decide_eq_false hneg
    have hkk0:(0:Int)≤(k:Int):=by omega
    have HNMQ:Hid (s'.gF=decide (0<f.params)):=Lib.hid (by
     unfold TS.gF
     rw [← HMO.out,hneg1,Int.toNat_natCast,hf]
     rfl)
    clear hm2 q0 q2 q3 gfz
    by_cases hpar:0<f.params
    case pos =>
     have hb2:decide (0<f.params)=true:=decide_eq_true hpar
     have HNO:Hid (s'.gF=true):=Lib.hid (HNMQ.out.trans hb2)
     go_upto_region 9 with fail
     go_quiet (fail)
     go_wp2_with fail
     go_ret
     exact HNM.out (w5.drewN nq) ⟨rfl,rfl,rfl,Nat.le_refl _,fun _ _=>rfl⟩ HNO.out
    case neg =>
     have hb2:decide (0<f.params)=false:=decide_eq_false hpar
     have HNO:Hid (s'.gF=false):=Lib.hid (HNMQ.out.trans hb2)
     go_upto_region 9 with fail
     go_quiet (fail)
     have hbq:Below w5.heap.size w5 (w5.drewN nq):=⟨rfl,rfl,rfl,Nat.le_refl _,fun _ _=>rfl⟩
     have HS6:=Lib.hid (HS5.out.below hbq)
     have HF6:Hid (FrY R OB B w (w5.drewN nq)):=Lib.hid (HF5.out.trans (.of hbq))
     clear hbq r2 r3 lR q1 hb2 hpar HNMQ HNM hneg1 hneg hRO hgl
     generalize w5.drewN nq=w6 at *
     clear HS5 HF5
     have r2:w6.cell? ⟨R,2,none⟩=some (.slice (some ⟨g,0,none⟩) m2 cap):=by have:=HS6.out.rd.cell 2; rw [HM2.out]; exact this
     have lR:=HS6.out.rd.lt
     obtain ⟨fl,hfl0⟩:∃ fl,fl=fnsAt 1 ks:=⟨_,rfl⟩
     have HFL:=Lib.hid hfl0
     have HRA:Hid (m2=fl.length∧∀ (j:Nat) (f:FnS),s'.fns[j]? = some f→∃ x,fl[j]? = some (f.root,x)∧x∈ks):=Lib.hid (by rw [HFL.out,HM2.out]; exact HR.out.at)
     clear hfl0
     go_wp2_with fail
     go_loopg [68] m2 (fun gk v wr=>∃ (j:Nat) (t:TS) (vs':Value),j≤m2∧m2 - j≤gk∧v=.int .i64 j∧Hid (bodiesF 0 (fl.take j) s'=.ok t)∧Hid (StT wr R OB B n cc (some ⟨b,o,none⟩) (k:Int) t va' (.slice (some ⟨g,0,none⟩) m2 cap) vs')∧Hid (FrY R OB B w wr)∧Hid (t.fns.map (·.root)=s'.fns.map (·.root)∧t.ak=s'.ak))
     case atStart=>exact⟨0,s',.slice none 0 0,Nat.zero_le _,Nat.le_refl _,rfl,Lib.hid rfl,by rw [HM2.out]; exact HS6,HF6,Lib.hid ⟨rfl,rfl⟩⟩
     case round =>
      obtain ⟨j2,t,vs2,hj2,hgk2,rfl,HBO,HSR,HFR,HRO⟩:=hrel
      by_cases hlt3:j2<m2
      case neg =>
       have hjm2:j2=m2:=by omega
       subst hjm2
       have hbo:=HBO.out
       rw [List.take_of_length_le (Nat.le_of_eq HRA.out.1.symm)] at hbo
       have HE:Hid (bu (.mk 1 [] 0 p ks)=.ok t):=Lib.hid (by
        unfold bu
        show andThenT (cO 1 ks _) _=_
        rw [HHE.out]
        show (if s'.gF=true then _ else eU 0 1 ks s')=_
        rw [HNO.out,lC,← HFL.out,hbo]
        rfl)
       clear hbo
       go_wp2_with fail
       go_ret
       refine⟨HFR.out,t,(k:Int),va',_,vs2,_,HSR.out,rfl,?_,fun s hs=>?_⟩
       ·rw [HE.out]; exact⟨rfl,rfl⟩
       ·rw [HE.out] at hs
        injection hs with hs
        subst hs
        have hofl:s'.of.length=1+sizeL ks:=by rw [HH.out.2.2.2.1]; simp [eF,sizeI]
        have hbb:eU 0 1 ks s'=.ok t:=by
         have:=HE.out
         unfold bu at this
         have h2:andThenT (cO 1 ks (eF (.mk 1 [] 0 p ks))) (fun s=>if s.gF=true then .error (none,153) else eU 0 1 ks s)=.ok t:=this
         rw [HHE.out] at h2
         have h3:(if s'.gF=true then .error (none,153) else eU 0 1 ks s')=.ok t:=h2
         rw [HNO.out] at h3
         exact h3
        have B0:=ll hbb (by rw [List.drop_zero]; exact HR.out) (by rw [hofl]; exact Nat.le_refl _)
        rw [HMO.out]
        exact (yl B0.names).symm
      case pos =>
       have hjl:j2<t.fns.length:=by have:=congrArg List.length HRO.out.1; simp only [List.length_map] at this; rw [this,← HM2.out]; exact hlt3
       obtain ⟨f2,hf2⟩:∃ f,t.fns[j2]? = some f:=⟨_,List.getElem?_eq_getElem hjl⟩
       obtain ⟨g2,cap2,hv2,_,hgl2,p0,p1,p2,p3,_,_⟩:=HSR.out.AP j2 f2 hf2
       injection hv2 with e1 e2 e3
       injection e1 with e1
       injection e1 with e1
       subst e1 e3
       clear e2
       have hf3:∃ f,s'.fns[j2]? = some f∧f.root=f2.root:=by
        have h1:=congrArg (fun l=>l[j2]?) HRO.out.1
        simp only [List.getElem?_map,hf2,Option.map_some] at h1
        cases hs:s'.fns[j2]? with
        | none=>rw [hs] at h1; cases h1
        | some f=>rw [hs] at h1; exact⟨f,rfl,by injection h1 with h1; exact h1.symm⟩
       obtain ⟨f3,hf3,hroot⟩:=hf3
       obtain ⟨y,hy1,hy2⟩:=HRA.out.2 j2 f3 hf3
       rw [hroot] at hy1
       have HY:=Lib.hid hy1
       have hyat:=qQ (o:=1) HAT.out (f2.root,y) (by rw [← HFL.out]; exact List.mem_of_getElem? hy1)
       obtain ⟨root,hroot2⟩:∃ r,r=f2.root:=⟨_,rfl⟩
       rw [← hroot2] at p3 hy1 hyat HY
       obtain ⟨nm,hnm⟩:∃ nm:ByteArray,nm=⟨f2.name.toArray⟩:=⟨_,rfl⟩
       rw [← hnm] at p0
       have hysz:sizeI y≤sizeL ks:=pG hy2
       have hcw:=KC (HWD.out y hy2)
       obtain ⟨ky,ty,ny,py,kys⟩:=y
       obtain ⟨⟨ay,hgy⟩,haty⟩:=hyat
       obtain ⟨vy,hly⟩:=gP hgy
       have hri:root<n:=by rw [HN.out]; exact (List.getElem?_eq_some_iff.1 hly).1
       obtain ⟨b',o',e9,z0,z1,z2,z3,z4,A4,c4,hxv0,hc40,hiny⟩:=HT.out.at hly
       injection e9 with e9
       injection e9 with e9 e10
       subst e9 e10
       have hxv:vy=.slice A4 ((offs (root+1) kys).map (fun k:Nat=>(k:Int))).length c4:=hxv0
       clear hxv0 hc40
       rw [List.length_map,aL] at hxv
       subst hxv
       have HINY:=Lib.hid hiny; have HATY:=Lib.hid haty; have HCW:=Lib.hid hcw; have HF2':=Lib.hid hf2
       have hji2:(j2:Int)<(m2:Int):=by omega
       have hj20:(0:Int)≤(j2:Int):=by omega
       have k5:wr.cell? ⟨R,5,none⟩=some vs2:=HSR.out.rd.cell 5
       have k6:wr.cell? ⟨R,6,none⟩=some (.int .i64 t.vars):=HSR.out.rd.cell 6
       have g5:=HSR.out.rd.free 5
       have g6:=HSR.out.rd.free 6
       have lR:=HSR.out.rd.lt
       obtain ⟨A5,c5,hvs⟩:=bJ HSR.out.seen
       subst hvs
       have hba:Below ((wr.setCell ⟨R,5,none⟩ (.slice none 0 0)).setCell ⟨R,6,none⟩ (.int .i64 0)).heap.size ((wr.setCell ⟨R,5,none⟩ (.slice none 0 0)).setCell ⟨R,6,none⟩ (.int .i64 0)) (((wr.setCell ⟨R,5,none⟩ (.slice none 0 0)).setCell ⟨R,6,none⟩ (.int .i64 0)).alloc (.cells #[.string nm,.int .i64 f2.params,.int .i64 f2.vars,.int .i64 root] 72)):=(Below.refl _ _).alloc (Nat.le_refl _) _
       have hsz2:((wr.setCell ⟨R,5,none⟩ (.slice none 0 0)).setCell ⟨R,6,none⟩ (.int .i64 0)).heap.size=wr.heap.size:=by simp [World.setCell]
       have HS7:Hid (StT (((wr.setCell ⟨R,5,none⟩ (.slice none 0 0)).setCell ⟨R,6,none⟩ (.int .i64 0)).alloc (.cells #[.string nm,.int .i64 f2.params,.int .i64 f2.vars,.int .i64 root] 72)) R OB B n cc (some ⟨b,o,none⟩) (k:Int) { t with seen:=[],vars:=0 } va' (.slice (some ⟨g,0,none⟩) m2 cap) (.slice none 0 0)):=Lib.hid (((HSR.out.Ko).vars 0).below hba)
       have HF7:Hid (FrY R OB B w (((wr.setCell ⟨R,5,none⟩ (.slice none 0 0)).setCell ⟨R,6,none⟩ (.int .i64 0)).alloc (.cells #[.string nm,.int .i64 f2.params,.int .i64 f2.vars,.int .i64 root] 72))):=Lib.hid (((HFR.out.tY 5 _).tY 6 _).trans (.of hba))
       obtain ⟨F,hF0⟩:∃ F,F=wr.heap.size:=⟨_,rfl⟩
       have hFR:F≠R:=by omega
       have BF:Hid (Blk (((wr.setCell ⟨R,5,none⟩ (.slice none 0 0)).setCell ⟨R,6,none⟩ (.int .i64 0)).alloc (.cells #[.string nm,.int .i64 f2.params,.int .i64 f2.vars,.int .i64 root] 72)) F 72 #[.string nm,.int .i64 f2.params,.int .i64 f2.vars,.int .i64 root]):=Lib.hid (by rw [hF0,← hsz2]; exact Blk.new _ 72 _)
       clear hiny haty hcw hf2 hf3 hy1 hy2 hgy hly z0 z1 z2 z3 hnm hroot hba hroot2 hsz2
       go_upto_region 15 with fail
       rw [← hF0]
       clear k5 k6 g5 g6 lR p0 p1 p2 p3 hF0 r2 HSR HFR
       generalize (((wr.setCell ⟨R,5,none⟩ (.slice none 0 0)).setCell ⟨R,6,none⟩ (.int .i64 0)).alloc (.cells #[.string nm,.int .i64 f2.params,.int .i64 f2.vars,.int .i64 root] 72))=w7 at *
       have HW7:=Lib.hid (HW.out.next HF7.out)
       have HSN:Hid (∀ W,FrY R OB B w W→W.cell? ⟨b,o+root*5+4,none⟩=some (.slice A4 kys.length c4)):=Lib.hid (fun W f=>((HW.out.next f).below.cell (p:=⟨b,_,none⟩) (aa z4)).trans z4)
       clear z4
       have hSd:w7.drew.cell? ⟨R,0,none⟩=some (.slice (some ⟨b,o,none⟩) n cc)∧w7.drew.cell? ⟨b,o+root*5+4,none⟩=some (.slice A4 kys.length c4):=⟨HS7.out.rd.cell 0,HSN.out _ (HF7.out.trans (.of ((Below.refl _ _).drew)))⟩
       have hrii:(root:Int)<(n:Int):=by omega
       have hri0:(0:Int)≤(root:Int):=by omega
       refine wp_region_held_drew (S:=fun W=>W.cell? ⟨R,0,none⟩=some (.slice (some ⟨b,o,none⟩) n cc)∧W.cell? ⟨b,o+root*5+4,none⟩=some (.slice A4 kys.length c4)) (by kernel_rfl) (hSd) (fun hS=>?_)
       refine aJ [(0,some 79,.pointer (some ⟨R,0,none⟩)),(1,some 80,.pointer (some ⟨R,0,none⟩)),(2,some 81,.pointer (some ⟨R,0,none⟩)),(3,some 82,.pointer (some ⟨R,0,none⟩)),(4,some 83,.pointer (some ⟨R,0,none⟩)),(5,some 84,.pointer (some ⟨R,0,none⟩)),(6,some 85,.slice (some ⟨b,o,none⟩) n cc),(7,some 86,.pointer (some ⟨F,3,none⟩))] 6 (by kernel_rfl) (fun _ _ _ _ _ h=>h) (by kernel_rfl) (by kernel_rfl) hS ?_
       intro F1 hF1
       have f1_0:F1.tmps[0]? = some (.pointer (some ⟨R,0,none⟩)):=by rw [hF1]; kernel_rfl
       have f1_7:F1.tmps[7]? = some (.pointer (some ⟨F,0,none⟩)):=by rw [hF1]; kernel_rfl
       have f1_79:F1.tmps[79]? = some (.pointer (some ⟨R,0,none⟩)):=by rw [hF1]; kernel_rfl
       have f1_80:F1.tmps[80]? = some (.pointer (some ⟨R,0,none⟩)):=by rw [hF1]; kernel_rfl
       have f1_81:F1.tmps[81]? = some (.pointer (some ⟨R,0,none⟩)):=by rw [hF1]; kernel_rfl
       have f1_82:F1.tmps[82]? = some (.pointer (some ⟨R,0,none⟩)):=by rw [hF1]; kernel_rfl
       have f1_83:F1.tmps[83]? = some (.pointer (some ⟨R,0,none⟩)):=by rw [hF1]; kernel_rfl
       have f1_84:F1.tmps[84]? = some (.pointer (some ⟨R,0,none⟩)):=by rw [hF1]; kernel_rfl
       have f1_85:F1.tmps[85]? = some (.slice (some ⟨b,o,none⟩) n cc):=by rw [hF1]; kernel_rfl
       have f1_86:F1.tmps[86]? = some (.pointer (some ⟨F,3,none⟩)):=by rw [hF1]; kernel_rfl
       have HF1:=Lib.hid hF1
       clear hF1
       refine⟨?_,?_⟩
       ·refine ai.cons _ rfl (Or.inl ⟨by rfl,fun W hW=>by (obtain ⟨hW1,hW2⟩:=hW); go_simp⟩) ?_
        refine ai.cons _ rfl (Or.inl ⟨by rfl,fun W hW=>by (obtain ⟨hW1,hW2⟩:=hW); go_simp⟩) ?_
        refine ai.cons _ rfl (Or.inl ⟨by rfl,fun W hW=>by (obtain ⟨hW1,hW2⟩:=hW); go_simp⟩) ?_
        refine ai.cons _ rfl (Or.inl ⟨by rfl,fun W hW=>by (obtain ⟨hW1,hW2⟩:=hW); go_simp⟩) ?_
        refine ai.cons _ rfl (Or.inl ⟨by rfl,fun W hW=>by (obtain ⟨hW1,hW2⟩:=hW); go_simp⟩) ?_
        refine ai.cons _ rfl (Or.inl ⟨by rfl,fun W hW=>by (obtain ⟨hW1,hW2⟩:=hW); go_simp⟩) ?_
        refine ai.cons _ rfl (Or.inl ⟨by rfl,fun W hW=>by (obtain ⟨hW1,hW2⟩:=hW); go_simp⟩) ?_
        refine ai.cons _ rfl (Or.inl ⟨by rfl,fun W hW=>by (obtain ⟨hW1,hW2⟩:=hW); go_simp⟩) ?_
        exact ai.nil
       have kF:w7.drew.cell? ⟨F,3,none⟩=some (.int .i64 root):=BF.out.cell 3
       refine bN 8 (some 87) rfl (by kernel_rfl) (by kernel_rfl) (fun KK hK=>?_)
       go_simp
       refine hK.out _ _ hS ?_
       clear hK
       clear f1_0 f1_7 f1_79 f1_80 f1_81 f1_82 f1_83 f1_84 f1_85 f1_86
       refine aJ [(9,some 88,.pointer (some ⟨b,o+root*5,none⟩)),(10,some 89,.pointer (some ⟨b,o+root*5+4,none⟩)),(11,some 90,.slice A4 kys.length c4)] 2 (by kernel_rfl) (fun _ _ _ _ _ h=>h) (by kernel_rfl) (by kernel_rfl) hS ?_
       intro F2 hF2
       have f2_85:F2.tmps[85]? = some (.slice (some ⟨b,o,none⟩) n cc):=by rw [hF2,HF1.out]; kernel_rfl
       have f2_87:F2.tmps[87]? = some (.int .i64 root):=by rw [hF2,HF1.out]; kernel_rfl
       have f2_79:F2.tmps[79]? = some (.pointer (some ⟨R,0,none⟩)):=by rw [hF2,HF1.out]; kernel_rfl
       have f2_88:F2.tmps[88]? = some (.pointer (some ⟨b,o+root*5,none⟩)):=by rw [hF2,HF1.out]; kernel_rfl
       have f2_89:F2.tmps[89]? = some (.pointer (some ⟨b,o+root*5+4,none⟩)):=by rw [hF2,HF1.out]; kernel_rfl
       have f2_90:F2.tmps[90]? = some (.slice A4 kys.length c4):=by rw [hF2,HF1.out]; kernel_rfl
       have HF2:=Lib.hid hF2
       clear hF2
       refine⟨?_,?_⟩
       ·refine ai.cons _ rfl (Or.inl ⟨by rfl,fun W hW=>by (obtain ⟨hW1,hW2⟩:=hW); go_simp⟩) ?_
        refine ai.cons _ rfl (Or.inl ⟨by rfl,fun W hW=>by (obtain ⟨hW1,hW2⟩:=hW); go_simp⟩) ?_
        refine ai.cons _ rfl (Or.inl ⟨by rfl,fun W hW=>by (obtain ⟨hW1,hW2⟩:=hW); go_simp⟩) ?_
        exact ai.nil
       refine bN 12 (some 91) rfl (by kernel_rfl) (by kernel_rfl) (fun KK hK=>?_)
       go_simp
       refine (fB w0 n cc (some ⟨b,o,none⟩) l kys (fun z hz=>wP w0 n cc _ l HT.out HN.out _ z (Nat.le_refl _) (Ic (by have:=HCW.out; unfold CW at this; exact Ao this.2 z hz))) R OB B (k:Int) va' (.slice (some ⟨g,0,none⟩) m2 cap) (.slice none 0 0) { t with seen:=[],vars:=0 } (root+1) c4 A4 w7.drew HATY.out HINY.out (HW7.out.next (.of ((Below.refl _ _).drew))) (HS7.out.below ((Below.refl _ _).drew)) (by simp only [sizeI] at hysz; simp only; omega) (by simp only [sizeI] at hysz; simp only [List.length_nil]; omega) (by rw [show ({ t with seen:=[],vars:=0 }:TS).ak=s'.ak from HRO.out.2]; omega) (by have:=congrArg List.length HRO.out.1; simp only [List.length_map] at this; have h9:=HM2.out; simp only; omega)).mono ?_
       rintro e w8 ⟨hf8,t2,vs8,v8,hS8,ha8,hfn8,_,_,_,rfl,hr8⟩
       have HF8:Hid (FrY R OB B w w8):=Lib.hid ((HF7.out.trans (.of ((Below.refl _ _).drew))).trans hf8)
       have HS8:=Lib.hid hS8
       have hSe:w8.cell? ⟨R,0,none⟩=some (.slice (some ⟨b,o,none⟩) n cc)∧w8.cell? ⟨b,o+root*5+4,none⟩=some (.slice A4 kys.length c4):=⟨HS8.out.rd.cell 0,HSN.out _ HF8.out⟩
       have HR8:=Lib.hid hr8; have HA8:=Lib.hid ha8; have HFN8:=Lib.hid hfn8
       clear hf8 hS8 hr8 ha8 hfn8
       refine hK.out _ _ hSe ?_
       clear hK
       clear f2_85 f2_87 f2_79 f2_88 f2_89 f2_90
       refine aJ [(13,some 8,v8)] 0 (by kernel_rfl) (fun _ _ _ _ _ h=>h) (by kernel_rfl) (by kernel_rfl) hSe ?_
       intro F3 hF3
       have f3_91:F3.tmps[91]? = some (v8):=by rw [hF3,HF2.out,HF1.out]; kernel_rfl
       have f3_8:F3.tmps[8]? = some (v8):=by rw [hF3,HF2.out,HF1.out]; kernel_rfl
       have HF3:=Lib.hid hF3
       clear hF3
       refine⟨?_,?_⟩
       ·refine ai.cons _ rfl (Or.inl ⟨by rfl,fun W hW=>by (obtain ⟨hW1,hW2⟩:=hW); go_simp⟩) ?_
        exact ai.nil
       refine wpAnyH_done (by kernel_rfl) ?_ _
       clear f3_91 f3_8
       rw [HF3.out,HF2.out,HF1.out]
       simp only [putD,Act.put,List.setIfInBounds_toArray,List.set_cons_zero,List.set_cons_succ]
       clear HF1 HF2 HF3
       have HT1:=Lib.hid (wK HY.out HBO.out)
       rw [zz] at HT1
       cases hall:allT (root+1) kys { t with seen:=[],vars:=0 } with
       | error q =>
        obtain ⟨q1,q2⟩:=q
        have hr:=HR8.out
        rw [hall] at hr
        obtain ⟨pp,rfl⟩:=aF.isErr hr
        have HRES:Hid (aF l w8 R OB q1 q2 (.iface 121 (.pointer pp))):=Lib.hid hr
        have HE:Hid (bu (.mk 1 [] 0 p ks)=.error (q1,q2)):=Lib.hid (by
         unfold bu
         show andThenT (cO 1 ks _) _=_
         rw [HHE.out]
         show (if s'.gF=true then _ else eU 0 1 ks s')=_
         rw [HNO.out,lC,← HFL.out]
         show bodiesF 0 fl s'=_
         refine yO (j:=j2+1) ?_
         rw [HT1.out]
         show andThenT (allT (root+1) kys { t with seen:=[],vars:=0 }) _=_
         rw [hall]
         rfl)
        clear hr hall
        go_wp2_with fail
        go_ret
        exact⟨HF8.out,t2,(k:Int),va',_,vs8,_,HS8.out,rfl,by rw [HE.out]; exact HRES.out,fun s hs=>by rw [HE.out] at hs; cases hs⟩
       | ok t3 =>
        have hr:=HR8.out
        rw [hall] at hr
        obtain ⟨rfl,rfl⟩:=hr
        have HT2:Hid (bodiesF 0 (fl.take (j2+1)) s'=.ok { t2 with fns:=bM j2 t2.vars t2.fns }):=Lib.hid (by
         rw [HT1.out]
         show andThenT (allT (root+1) kys { t with seen:=[],vars:=0 }) _=_
         rw [hall]
         rfl)
        clear hall
        have hf9:t2.fns[j2]? = some f2:=by rw [HFN8.out]; exact HF2'.out
        obtain ⟨g9,cap9,hv9,_,hgl9,_,_,p2,_,gfz9,hset9⟩:=HS8.out.AP j2 f2 hf9
        injection hv9 with e1 e2 e3
        injection e1 with e1
        injection e1 with e1
        subst e1 e3
        clear e2
        have HSET:=Lib.hid hset9
        have r2:w8.cell? ⟨R,2,none⟩=some (.slice (some ⟨g,0,none⟩) m2 cap):=HS8.out.rd.cell 2
        have r6:w8.cell? ⟨R,6,none⟩=some (.int .i64 t2.vars):=HS8.out.rd.cell 6
        have lR:=HS8.out.rd.lt
        clear hset9 hf9 hSe
        go_upto_region 18 with fail
        go_region
        have hd:Below (w8.setCell ⟨g,j2*4+2,none⟩ (.int .i64 t2.vars)).heap.size (w8.setCell ⟨g,j2*4+2,none⟩ (.int .i64 t2.vars)) (w8.setCell ⟨g,j2*4+2,none⟩ (.int .i64 t2.vars)).drew:=(Below.refl _ _).drew
        have HS9:=Lib.hid ((HSET.out t2.vars).1.below hd)
        have HF9:=Lib.hid ((HF8.out.trans (HSET.out t2.vars).2).trans (.of hd))
        have HRO9:Hid ((bM j2 t2.vars t2.fns).map (·.root)=s'.fns.map (·.root)∧t2.ak=s'.ak):=Lib.hid ⟨by rw [wO,HFN8.out]; exact HRO.out.1,by rw [HA8.out]; exact HRO.out.2⟩
        clear hd r2 r6 lR p2 gfz9 HSET
        generalize (w8.setCell ⟨g,j2*4+2,none⟩ (.int .i64 t2.vars)).drew=w9 at *
        go_wp2_with fail
        cases gk with
        | zero=>omega
        | succ gk =>
         go_roundg gk
         case measure=>omega
         case rel=>exact⟨j2+1,{ t2 with fns:=bM j2 t2.vars t2.fns },vs8,by omega,by omega,by simp,HT2,HS9,HF9,HRO9⟩
end Go.Proofs.YtkkeocnnecegbaaGreatDoor
namespace Go.Proofs.YtkkeocnnecegbaaGreatDoor
open Go.RowKit
theorem Io {w:World} {A:Option Addr} {l:List PV} (h:bg w A l):∀ u∈eZ l,u.oneCell'=true:=by
 intro u hu
 obtain ⟨g,hg,hu⟩:=List.mem_flatMap.1 hu
 obtain ⟨i,hi⟩:=List.mem_iff_getElem?.1 hg
 obtain ⟨b,o,_,_,_,_,_,_,A3,c3,hv,_⟩:=h.at hi
 simp only [pvC,List.mem_cons,List.not_mem_nil,or_false] at hu
 rcases hu with rfl | rfl | rfl | rfl | rfl
 ·rfl
 ·rfl
 ·rfl
 ·rfl
 ·rw [hv]; rfl
theorem De {w:World} {b o:Nat} {l:List PV} (h:bg w (some ⟨b,o,none⟩) l):∀ j u,(eZ l)[j]? = some u→w.cell? ((⟨b,o,none⟩:Addr).add j)=some u:=by
 intro j u hu
 have hadd:(⟨b,o,none⟩:Addr).add j=⟨b,o+j,none⟩:=by unfold Addr.add; split <;> simp_all
 rw [hadd]
 have hj:=(List.getElem?_eq_some_iff.1 hu).1
 rw [yC] at hj
 obtain ⟨i,k,hk,rfl⟩:∃ i k,k<5∧j=i*5+k:=⟨j / 5,j % 5,Nat.mod_lt _ (by decide),by omega⟩
 have hi:i<l.length:=by omega
 have hg:=List.getElem?_eq_getElem hi
 obtain ⟨b',o',e,x0,x1,x2,x3,x4,_⟩:=h.at hg
 injection e with e
 injection e with e1 e2 _
 subst e1 e2
 obtain ⟨p0,p1,p2,p3,p4⟩:=nP l i _ hg
 match k,hk with
 | 0,_=>rw [Nat.add_zero,p0] at hu; injection hu with hu; subst hu; exact x0
 | 1,_=>rw [p1] at hu; injection hu with hu; subst hu; rw [← Nat.add_assoc]; exact x1
 | 2,_=>rw [p2] at hu; injection hu with hu; subst hu; rw [← Nat.add_assoc]; exact x2
 | 3,_=>rw [p3] at hu; injection hu with hu; subst hu; rw [← Nat.add_assoc]; exact x3
 | 4,_=>rw [p4] at hu; injection hu with hu; subst hu; rw [← Nat.add_assoc]; exact x4
theorem zg (b o c:Nat) (l:List PV) (w:World) (h:bg w (some ⟨b,o,none⟩) l) (hl:l.length≤1000000) :
  Calls Tryz.prog 110 #[.slice (some ⟨b,o,none⟩) l.length c] w fun e w'=>∃ v',e=.returned v'∧w'.ownsRow w.heap.size 43 5 v' l.length (eZ l)∧Below w.heap.size w w':=by
 obtain ⟨i0,hi0,hz0,hz1,hz2⟩:=info_parts su
 have h1:=Io h
 have h2:=De h
 have h3:=yC l
 have lb:l=[]∨b<w.heap.size:=by
  cases l with
  | nil=>exact Or.inl rfl
  | cons g r =>
   obtain ⟨b',o',e,x0,_⟩:=h.at (i:=0) rfl
   injection e with e; injection e with e1 _ _; subst e1
   exact Or.inr (aa x0)
 have H1:=Lib.hid h1; have H2:=Lib.hid h2; have H3:=Lib.hid h3; have LB:=Lib.hid lb
 clear h h1 h2 h3 lb
 obtain ⟨n,hn⟩:∃ n,n=l.length:=⟨_,rfl⟩
 rw [← hn] at H3 hl ⊢
 have HN:=Lib.hid hn
 clear hn
 have e22:∀ W,(binOp .eql 22 (.slice (some ⟨b,o,none⟩) n c) (.slice none 0 0)).run Tryz.prog W=.ok (.bool false) W:=fun _=>by kernel_rfl
 go_enter Tryz.func110,Tryz.ntmps110
 go_wp2_with (at_builtin; refine wpList_append_own _ rfl _ _ 22 rfl w.heap.size 43 i0 (.agg #[.int .u8 0,.string ⟨#[]⟩,.int .i64 0,.int .i64 0,.slice none 0 0]) 5 64 Tryz.underlying22 hi0 hz0 hz1 hz2 rfl (by decide) _ 0 [] rfl (World.ownsRow_made w #[] 0 (Nat.le_refl _) (by decide) rfl) ⟨b,o,none⟩ n c (eZ l) rfl H3.out (fun j u hu=>by have:=H2.out j u hu; rw [World.cell?_alloc_lt _ _ _ (World.block_lt_of_cell? w _ this)]; exact this) H1.out (by unfold maxLen; omega) (by omega) (by simp) ?_)
 intro v' w1 hown hgrow _
 have HO:=Lib.hid hown; have HG:=Lib.hid hgrow
 clear hown hgrow
 go_wp2_with fail
 go_ret
 have ho:w1.ownsRow w.heap.size 43 5 v' n (eZ l):=by simpa using HO.out
 refine⟨v',rfl,ho,((Below.refl w.heap.size w).alloc (Nat.le_refl _) _).grown HG.out (by simp) (fun q e=>?_)⟩
 have:w.heap.size=q:=by simpa [Value.ownBlock] using e
 omega
end Go.Proofs.YtkkeocnnecegbaaGreatDoor
namespace Go.Proofs.YtkkeocnnecegbaaGreatDoor
open Go.RowKit
theorem uH {w:World} {B:Nat} {v:Value} {ks:List Int} (h:w.ownsRow B 3 1 v ks.length (ks.map (Value.int .i64))):eO w v ks:=by
 obtain ⟨A,c,rfl⟩:=bJ h
 have hc:=xG h
 refine⟨A,c,rfl,hc,?_⟩
 by_cases h0:ks=[]
 ·exact Or.inl h0
 ·obtain ⟨g,cap,hv,_,_⟩:=h.form (List.length_pos_iff.2 h0)
  injection hv with hA _ _
  subst hA
  refine Or.inr ⟨g,0,rfl,fun i k hi=>?_⟩
  have hil:=(List.getElem?_eq_some_iff.1 hi).1
  rw [Nat.zero_add]
  rw [h.cellAt i (by omega),List.getElem?_map,hi]; rfl
theorem Cw {w:World} {v:Value} {ks:List Int} (h:eO w v ks) (hl:ks.length≤1000000) :
  Calls Tryz.prog 111 #[v] w fun e w'=>∃ v',e=.returned v'∧eO w' v' ks∧(∀ q,v'.ownBlock=some q→w.heap.size≤q)∧Below w.heap.size w w':=by
 obtain ⟨A,c,rfl,hc,h⟩:=h
 cases A with
 | none =>
  have h0:ks=[]:=by
   rcases h with h | ⟨b,o,e,_⟩
   ·exact h
   ·cases e
  subst h0
  refine (Tryz.slices_Clone_int_nil _ c w).mono ?_
  rintro e w' ⟨rfl,rfl⟩
  exact⟨_,rfl,⟨none,0,rfl,Nat.le_refl _,Or.inl rfl⟩,⟨fun q h=>by simp [Value.ownBlock] at h,Below.refl _ _⟩⟩
 | some ad =>
  by_cases h0:ks=[]
  ·subst h0
   refine (Tryz.slices_Clone_int_zero ad c w).mono ?_
   rintro e w' ⟨v',rfl,ho,_,hb⟩
   exact⟨v',rfl,uH (ks:=[]) ho,fun q e=>(ho.lt q e).1,hb⟩
  ·rcases h with h | ⟨b,o,e,h⟩
   ·exact absurd h h0
   ·injection e with e
    subst e
    refine (Tryz.slices_Clone_int b o ks.length c ks w (Nat.le_refl _) (by omega) (fun j hj=>?_)).mono ?_
    ·rw [h j _ (List.getElem?_eq_getElem hj),List.getD_eq_getElem?_getD,List.getElem?_eq_getElem hj]; rfl
    ·rintro e w' ⟨v',rfl,ho,_,hb⟩
     rw [List.take_of_length_le (Nat.le_refl _)] at ho
     exact⟨v',rfl,uH ho,fun q e=>(ho.lt q e).1,hb⟩
end Go.Proofs.YtkkeocnnecegbaaGreatDoor
