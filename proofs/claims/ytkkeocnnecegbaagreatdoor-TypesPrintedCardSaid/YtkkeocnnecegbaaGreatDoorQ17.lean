/- Joint text: PwT. By an AI agent. -/
import Derived.Test.YtkkeocnnecegbaaGreatDoorQ15
import Derived.Recover
import Derived.Defers
import Derived.Test.YtkkeocnnecegbaaGreatDoorQ16
import Derived.Test.YtkkeocnnecegbaaGreatDoorQ01
import Derived.Deep.LoopGhost
set_option linter.all false
set_option maxRecDepth 100000
set_option maxHeartbeats 64000000
namespace Go.Proofs.YtkkeocnnecegbaaGreatDoor
open Go.RowKit
theorem AR (p q s:Addr) (w:World) :
  CallsD Tryz.prog 49 #[.pointer (some p),.pointer (some q),.pointer (some s)] .returning w fun e u' w'=>e=.returned (.tuple #[])∧u'=.returning∧w'=w:=by
 refine callsD_of_wpS Tryz.func49 rfl fun c₀ cs hu=>?_
 apply wpS_seq
 apply wpS_region
 simp [wpOpsS,go_sem,recoverD,hu,Tryz.ntmps49,Exit.thenS]
 refine wpS_of_wp ?_
 change Code.wp _ _ _ { tmps:=#[.pointer (some p),.pointer (some q),.pointer (some s),.nilIface,undef,.nilIface,undef,undef,undef,undef,undef,undef,undef,undef,undef],defers:=[] } w
 go_wp2_with fail
 cases c₀
 simp_all [bodyPostS,results,Tryz.results49]
theorem qz (tb ab eb p:Nat) (er:Int) (_u:TypeId) (w:World) (v1 v2 v3:Value) (bt:Blk w tb 24 #[v1]) (ba:Blk w ab 3 #[v2]) (be:Blk w eb 31 #[v3]) (n1:tb≠ab) (n2:tb≠eb) (n3:ab≠eb) :
  CallsD Tryz.prog 49 #[.pointer (some ⟨tb,0,none⟩),.pointer (some ⟨ab,0,none⟩),.pointer (some ⟨eb,0,none⟩)] (.panicking [{ v:=gG p er,recovered:=false }]) w fun e u' w'=>e=.returned (.tuple #[])∧u'=.panicking [{ v:=gG p er,recovered:=true }]∧w'.cell? ⟨tb,0,none⟩=some (.slice none 0 0)∧w'.cell? ⟨ab,0,none⟩=some (.int .i64 p)∧w'.cell? ⟨eb,0,none⟩=some (.int .i64 er)∧w'.os=w.os∧w'.tape=w.tape∧w'.output=w.output∧w.heap.size≤w'.heap.size∧(∀ j,j<w.heap.size→j≠tb→j≠ab→j≠eb→w'.heap[j]? = w.heap[j]?):=by
 refine callsD_of_wpS Tryz.func49 rfl fun c₀ cs hu=>?_
 apply wpS_seq
 apply wpS_region
 simp [wpOpsS,go_sem,recoverD,hu,Tryz.ntmps49,Exit.thenS]
 refine wpS_of_wp ?_
 change Code.wp _ _ _ { tmps:=#[.pointer (some ⟨tb,0,none⟩),.pointer (some ⟨ab,0,none⟩),.pointer (some ⟨eb,0,none⟩),gG p er,undef,gG p er,undef,undef,undef,undef,undef,undef,undef,undef,undef],defers:=[] } w
 unfold gG
 have ht:w.cell? ⟨tb,0,none⟩=some v1:=bt.cell 0
 have ha:w.cell? ⟨ab,0,none⟩=some v2:=ba.cell 0
 have he:w.cell? ⟨eb,0,none⟩=some v3:=be.cell 0
 have ht':=bt.free 0
 have ha':=ba.free 0
 have he':=be.free 0
 have BT:=Lib.hid bt; have BA:=Lib.hid ba; have BE:=Lib.hid be
 clear bt ba be
 have ta:∀ W,(Instr.typeAssert (.iface 89 (.agg #[.int .i64 p,.int .i64 er])) 20 89 false).run Tryz.prog W=.ok (.agg #[.int .i64 p,.int .i64 er]) W:=fun _=>by kernel_rfl
 have lt:=aa ht
 have la:=aa ha
 have le:=aa he
 have m1:¬ tb=w.heap.size:=by omega
 have m2:¬ ab=w.heap.size:=by omega
 have m3:¬ eb=w.heap.size:=by omega
 go_wp2_with fail
 go_region
 change bodyPostS Tryz.prog Tryz.f49 c₀ cs _ Exit.normal _ _ _
 cases c₀
 simp [bodyPostS,results,Tryz.results49]
 have b1:Blk _ tb 24 #[.slice none 0 0]:=(((BT.out.put 0 (.slice none 0 0)).far (g':=ab) n1 0 (.int .i64 p)).far (g':=eb) n2 0 (.int .i64 er)).alloc (.cells #[.int .i64 p,.int .i64 er] 89)
 have b2:Blk _ ab 3 #[.int .i64 p]:=(((BA.out.far (g':=tb) (Ne.symm n1) 0 (.slice none 0 0)).put 0 (.int .i64 p)).far (g':=eb) n3 0 (.int .i64 er)).alloc (.cells #[.int .i64 p,.int .i64 er] 89)
 have b3:Blk _ eb 31 #[.int .i64 er]:=(((BE.out.far (g':=tb) (Ne.symm n2) 0 (.slice none 0 0)).far (g':=ab) (Ne.symm n3) 0 (.int .i64 p)).put 0 (.int .i64 er)).alloc (.cells #[.int .i64 p,.int .i64 er] 89)
 exact⟨b1.cell 0,b2.cell 0,b3.cell 0,rfl,rfl,fun j hj h1 h2 h3=>(Below.heap_alloc _ _ _ (by simpa [World.setCell] using hj)).trans ((Below.heap_setCell _ _ _ _ h3).trans ((Below.heap_setCell _ _ _ _ h2).trans (Below.heap_setCell _ _ _ _ h1)))⟩
theorem Fa {l:List UInt8} {p:Nat} {ts:List Tok} (h:lx l p=.ok ts):ts.length≤l.length+1:=by
 have:∀ l p,∀ ts,lx l p=.ok ts→ts.length≤l.length+1:=by
  refine mi (fun p ts h=>?_) (fun c r p hb ih ts h=>?_) (fun c r p e' hb ht ts h=>?_) (fun c r p k n v hb ht ih ts h=>?_)
  ·rw [j6] at h; injection h with h; subst h; simp
  ·rw [kV hb] at h; have:=ih ts h; simp only [List.length_cons]; omega
  ·rw [kX hb ht] at h; cases h
  ·rw [jW hb ht] at h
   have hl:=gB ht
   cases hh:lx ((c :: r).drop n) (p+n) with
   | error e=>rw [hh] at h; cases h
   | ok us =>
    rw [hh] at h
    injection h with h
    subst h
    have:=ih us hh
    rw [List.length_drop] at this
    simp only [List.length_cons] at *
    omega
 exact this l p ts h
theorem xm {l:List UInt8} {p q:Nat} {e:Int} (h:lx l p=.error (q,e)):e=130∨e=131:=by
 have:∀ l p,∀ q e,lx l p=.error (q,e)→e=130∨e=131:=by
  refine mi (fun p q e h=>?_) (fun c r p hb ih q e h=>?_) (fun c r p e' hb ht q e h=>?_) (fun c r p k n v hb ht ih q e h=>?_)
  ·rw [j6] at h; cases h
  ·rw [kV hb] at h; exact ih q e h
  ·rw [kX hb ht] at h
   injection h with h; injection h with _ h; subst h
   unfold tokAt at ht
   simp only at ht
   split at ht
   ·cases ht
   ·split at ht
    ·split at ht
     ·cases ht
     ·injection ht with ht; exact Or.inr ht.symm
    ·split at ht
     ·injection ht with ht; exact Or.inl ht.symm
     ·cases ht
  ·rw [jW hb ht] at h
   cases hh:lx ((c :: r).drop n) (p+n) with
   | error e =>
    rw [hh] at h
    injection h with h
    subst h
    exact ih q _ hh
   | ok us=>rw [hh] at h; cases h
 exact this l p q e h
def qo (w:World) (B:Nat) (v:Value) (x:Item):Prop:=∃ l:List NV,l.map (·.1)=flat 0 x∧w.ownsRow B 43 5 v l.length (fu l)∧∀ m∈l,w.ownsRow B 3 1 m.2 m.1.kids.length (oH m.1.kids)
def fM (w w':World) (src:List UInt8) (e:Ending):Prop :=
 match bD src with
 | .error (p,er)=>e=.returned (.tuple #[.agg #[.slice none 0 0],.int .i64 p,.int .i64 er])
 | .ok x=>∃ v,e=.returned (.tuple #[.agg #[v],.int .i64 0,.int .i64 0])∧qo w' w.heap.size v x
theorem wo {tmps:Array Value} {W:World} {tb ab eb:Nat} {v:Value} {p er:Int} (t2:tmps[2]? = some (.pointer (some ⟨tb,0,none⟩))) (t3:tmps[3]? = some (.pointer (some ⟨ab,0,none⟩))) (t4:tmps[4]? = some (.pointer (some ⟨eb,0,none⟩))) (c1:W.cell? ⟨tb,0,none⟩=some v) (c2:W.cell? ⟨ab,0,none⟩=some (.int .i64 p)) (c3:W.cell? ⟨eb,0,none⟩=some (.int .i64 er)) (hv:∃ A n c,v=.slice A n c:=by exact⟨_,_,_,rfl⟩) :
  (results Tryz.f24 tmps).run Tryz.prog W=.ok (.tuple #[.agg #[v],.int .i64 p,.int .i64 er]) W:=by
 obtain ⟨A,n,c,rfl⟩:=hv
 simp [results,Tryz.results24,go_sem,t2,t3,t4,c1,c2,c3]
theorem x8 (a:Option Addr) (c:Nat) (src:List UInt8) (p:Nat) (er:Int) (w:World) (hn:src.length≤65536) (hl:eP w a src) (hw:EW w) (hx:fZ src=.error (p,er)) :
  Calls Tryz.prog 24 #[.slice a src.length c] w fun e w'=>e=.returned (.tuple #[.agg #[.slice none 0 0],.int .i64 p,.int .i64 er])∧Below w.heap.size w w':=by
 have her:((er:Int) != 0)=true:=by
  rcases xm (by rw [← je]; exact hx) with rfl | rfl <;> rfl
 have hmf:∀ (fn:Fn) (first cap:Array Value) (w:World),(Instr.makeFunc fn first cap).run Tryz.prog w=.ok (.func fn first cap) w:=fun _ _ _ _=>rfl
 have hb0:Below w.heap.size w (((w.alloc (.cells #[.slice none 0 0] 24)).alloc (.cells #[.int .i64 0] 3)).alloc (.cells #[.int .i64 0] 31)):=(((Below.refl _ _).alloc (Nat.le_refl _) _).alloc (by simp) _).alloc (by simp; omega) _
 have HL:=Lib.hid (I9 a c src p er (((w.alloc (.cells #[.slice none 0 0] 24)).alloc (.cells #[.int .i64 0] 3)).alloc (.cells #[.int .i64 0] 31)) hn (hl.below hb0) (hw.below hb0) hx)
 have HB0:=Lib.hid hb0
 clear hl hw hx hb0
 go_enter_defers Tryz.func24,Tryz.ntmps24
 go_wp2_with fail
 refine HL.out.mono ?_; rintro e w1 ⟨rfl,hb1⟩
 have hs0:w.heap.size+1+1+1≤w1.heap.size:=by have:=hb1.size; simpa using this
 have b1:Blk w1 w.heap.size 24 #[.slice none 0 0]:=(hb1.block _ (by simp; omega)).trans (((Blk.new w 24 #[.slice none 0 0]).alloc (.cells #[.int .i64 0] 3)).alloc (.cells #[.int .i64 0] 31))
 have b2:Blk w1 (w.heap.size+1) 3 #[.int .i64 0]:=by
  have h:Blk w1 _ 3 #[.int .i64 0]:=(hb1.block (w.alloc (.cells #[.slice none 0 0] 24)).heap.size (by simp)).trans ((Blk.new (w.alloc (.cells #[.slice none 0 0] 24)) 3 #[.int .i64 0]).alloc (.cells #[.int .i64 0] 31))
  simpa using h
 have b3:Blk w1 (w.heap.size+1+1) 31 #[.int .i64 0]:=by
  have h:Blk w1 _ 31 #[.int .i64 0]:=(hb1.block ((w.alloc (.cells #[.slice none 0 0] 24)).alloc (.cells #[.int .i64 0] 3)).heap.size (by simp)).trans (Blk.new ((w.alloc (.cells #[.slice none 0 0] 24)).alloc (.cells #[.int .i64 0] 3)) 31 #[.int .i64 0])
  simpa using h
 have hb:Below w.heap.size w w1:=HB0.out.trans (hb1.mono (by simp; omega))
 generalize hT:w.heap.size=tb at b1 b2 b3 hb hs0 ⊢
 have n1':¬ tb+1=tb:=by omega
 generalize hA:tb+1=ab at b2 b3 hs0 n1' ⊢
 have n2:¬ ab+1=ab:=by omega
 have n3:¬ ab+1=tb:=by omega
 have n4:¬ tb=ab:=by omega
 have n5:¬ tb=ab+1:=by omega
 have n6:¬ ab=ab+1:=by omega
 have hAB:tb<ab:=by omega
 generalize hE:ab+1=eb at b3 hs0 n2 n3 n5 n6 ⊢
 have hEB:ab<eb:=by omega
 have HT:=Lib.hid hT
 clear hb1 hT hA hE HB0 HL
 have c1:w1.cell? ⟨tb,0,none⟩=some (.slice none 0 0):=b1.cell 0
 have c2:w1.cell? ⟨ab,0,none⟩=some (.int .i64 0):=b2.cell 0
 have c3:w1.cell? ⟨eb,0,none⟩=some (.int .i64 0):=b3.cell 0
 have f1:=b1.free 0
 have f2:=b2.free 0
 have f3:=b3.free 0
 have l1:=aa c1
 have l2:=aa c2
 have l3:=aa c3
 have HB:=Lib.hid hb
 have D1:=Lib.hid b1; have D2:=Lib.hid b2; have D3:=Lib.hid b3
 clear hb b1 b2 b3
 go_wp2_with fail
 have hb2:Below tb w ((w1.setCell ⟨ab,0,none⟩ (.int .i64 p)).setCell ⟨eb,0,none⟩ (.int .i64 er)):=by
  have h1:=HB.out.size
  exact (HB.out.setCell (by simp; omega) _).setCell (by simp; omega) _
 have E1:=Lib.hid ((D1.out.far (g':=ab) n4 0 (.int .i64 p)).far (g':=eb) n5 0 (.int .i64 er))
 have E2:=Lib.hid ((D2.out.put 0 (.int .i64 p)).far (g':=eb) n6 0 (.int .i64 er))
 have E3:=Lib.hid ((D3.out.far (g':=ab) n2 0 (.int .i64 p)).put 0 (.int .i64 er))
 have HB2:=Lib.hid hb2
 clear hb2 HB D1 D2 D3 c1 c2 c3 f1 f2 f3 l1 l2 l3
 generalize ((w1.setCell ⟨ab,0,none⟩ (.int .i64 p)).setCell ⟨eb,0,none⟩ (.int .i64 er))=W2 at *
 have c1:W2.cell? ⟨tb,0,none⟩=some (.slice none 0 0):=E1.out.cell 0
 have c2:W2.cell? ⟨ab,0,none⟩=some (.int .i64 p):=E2.out.cell 0
 have c3:W2.cell? ⟨eb,0,none⟩=some (.int .i64 er):=E3.out.cell 0
 have f1:=E1.out.free 0
 have f2:=E2.out.free 0
 have f3:=E3.out.free 0
 have l1:=aa c1
 have l2:=aa c2
 have l3:=aa c3
 go_region
 have G1:=((E1.out.put 0 (.slice none 0 0)).far (g':=ab) n4 0 (.int .i64 p)).far (g':=eb) n5 0 (.int .i64 er)
 have G2:=((E2.out.far (g':=tb) n1' 0 (.slice none 0 0)).put 0 (.int .i64 p)).far (g':=eb) n6 0 (.int .i64 er)
 have G3:=((E3.out.far (g':=tb) n3 0 (.slice none 0 0)).far (g':=ab) n2 0 (.int .i64 p)).put 0 (.int .i64 er)
 have HG:=((HB2.out.setCell (p:=⟨tb,0,none⟩) (by simp) (.slice none 0 0)).setCell (p:=⟨ab,0,none⟩) (by simp; omega) (.int .i64 p)).setCell (p:=⟨eb,0,none⟩) (by simp; omega) (.int .i64 er)
 generalize (((W2.setCell ⟨tb,0,none⟩ (.slice none 0 0)).setCell ⟨ab,0,none⟩ (.int .i64 p)).setCell ⟨eb,0,none⟩ (.int .i64 er))=W3 at *
 clear c1 c2 c3 f1 f2 f3 l1 l2 l3
 have c1:W3.cell? ⟨tb,0,none⟩=some (.slice none 0 0):=G1.cell 0
 have c2:W3.cell? ⟨ab,0,none⟩=some (.int .i64 p):=G2.cell 0
 have c3:W3.cell? ⟨eb,0,none⟩=some (.int .i64 er):=G3.cell 0
 go_wp2_with fail
 rw [HT.out]
 have c1:W3.drew.cell? ⟨tb,0,none⟩=some (.slice none 0 0):=G1.cell 0
 have c2:W3.drew.cell? ⟨ab,0,none⟩=some (.int .i64 p):=G2.cell 0
 have c3:W3.drew.cell? ⟨eb,0,none⟩=some (.int .i64 er):=G3.cell 0
 have HG':Below tb w W3.drew:=⟨HG.os,HG.tape,HG.output,HG.size,HG.block⟩
 generalize W3.drew=W4 at *
 refine⟨.tuple #[.agg #[.slice none 0 0],.int .i64 p,.int .i64 er],?_,rfl,HG'⟩
 exact wo (by simp) (by simp) (by simp) c1 c2 c3
theorem FZ (a:Option Addr) (c:Nat) (l:List UInt8) (ts:List Tok) (w:World) (hn:l.length≤65536) (hl:eP w a l) (hw:EW w) (h:fZ l=.ok ts) :
  Calls Tryz.prog 25 #[.slice a l.length c] w fun e w'=>∃ g cap,e=.returned (.tuple #[.slice (some ⟨g,0,none⟩) ts.length cap,.int .i64 0,.int .i64 0])∧w.heap.size≤g∧g<w'.heap.size∧ts.length≤cap∧(∀ i t,ts[i]? = some t→lS w' g (0+i*4) t)∧Below w.heap.size w w' :=
 (Ah a c l w hn hl hw).mono (by
  rintro e w' ⟨ho,hb⟩
  unfold mg at ho
  rw [h] at ho
  obtain ⟨v,rfl,hown⟩:=ho
  obtain ⟨t0,r0,ht0⟩:=(jB h).cons
  have hts:ts≠[]:=by rw [ht0]; exact List.cons_ne_nil _ _
  have ht:=hown.2
  rcases ht with ⟨rfl,h0⟩ | ⟨g,cap,cur,rfl,h1,h2,h3,h4,h5,h6⟩
  ·exact absurd (List.length_eq_zero_iff.1 h0) hts
  ·refine⟨g,cap,rfl,h1,(hown.lt g rfl).2,qb hown,?_,hb⟩
   rcases Ia.l6 hown with ⟨hh,_⟩ | ⟨b,o,hh,hc⟩
   ·exact absurd hh hts
   ·injection hh with hh
    injection hh with q1 q2
    subst q1 q2
    exact hc)
structure wy (w:World) (tb ab eb R X L:Nat):Prop where
 t:Blk w tb 24 #[.slice none 0 0]
 a:Blk w ab 3 #[.int .i64 0]
 e:Blk w eb 31 #[.int .i64 0]
 ta:tb<ab
 ae:ab<eb
 eR:eb<R
 RX:R<X
 XL:X<L
theorem wy.keep {w w':World} {tb ab eb R X L:Nat} (h:wy w tb ab eb R X L) (hk:au X R w w'):wy w' tb ab eb R X L :=
 ⟨h.t.kept hk (by have:=h.ta; have:=h.ae; have:=h.eR; have:=h.RX; omega) (by have:=h.ta; have:=h.ae; have:=h.eR; omega),
  h.a.kept hk (by have:=h.ae; have:=h.eR; have:=h.RX; omega) (by have:=h.ae; have:=h.eR; omega),
  h.e.kept hk (by have:=h.eR; have:=h.RX; omega) (by have:=h.eR; omega),h.ta,h.ae,h.eR,h.RX,h.XL⟩
theorem parse_lexok (a:Option Addr) (c:Nat) (src:List UInt8) (ts:List Tok) (w:World) (hn:src.length≤65536) (hl:eP w a src) (hw:EW w) (hmx:∃ m,w.cell? ⟨3,0,none⟩=some (.int .i64 m)) (hx:fZ src=.ok ts) :
  Calls Tryz.prog 24 #[.slice a src.length c] w fun e w'=>fM w w' src e∧Below w.heap.size w w':=by
 obtain ⟨mm,hmm⟩:=hmx
 have hsz3:=aa hmm
 have hmf:∀ (fn:Fn) (first cap:Array Value) (w:World),(Instr.makeFunc fn first cap).run Tryz.prog w=.ok (.func fn first cap) w:=fun _ _ _ _=>rfl
 have hb0:Below w.heap.size w (((w.alloc (.cells #[.slice none 0 0] 24)).alloc (.cells #[.int .i64 0] 3)).alloc (.cells #[.int .i64 0] 31)):=(((Below.refl _ _).alloc (Nat.le_refl _) _).alloc (by simp) _).alloc (by simp; omega) _
 have HL:=Lib.hid (FZ a c src ts (((w.alloc (.cells #[.slice none 0 0] 24)).alloc (.cells #[.int .i64 0] 3)).alloc (.cells #[.int .i64 0] 31)) hn (hl.below hb0) (hw.below hb0) hx)
 have HB0:=Lib.hid hb0
 have HX:=Lib.hid hx
 have HMM:=Lib.hid hmm
 clear hl hw hx hb0 hmm
 go_enter_defers Tryz.func24,Tryz.ntmps24
 go_wp2_with fail
 refine HL.out.mono ?_; rintro e w1 ⟨g,cap,rfl,hg1,hg2,hcap,hcells,hb1⟩
 have HCELLS:=Lib.hid hcells
 have hs0:w.heap.size+1+1+1≤w1.heap.size:=by have:=hb1.size; simpa using this
 have hg1':w.heap.size+1+1+1≤g:=by simpa using hg1
 have b1:Blk w1 w.heap.size 24 #[.slice none 0 0]:=(hb1.block _ (by simp; omega)).trans (((Blk.new w 24 #[.slice none 0 0]).alloc (.cells #[.int .i64 0] 3)).alloc (.cells #[.int .i64 0] 31))
 have b2:Blk w1 (w.heap.size+1) 3 #[.int .i64 0]:=by
  have h:Blk w1 _ 3 #[.int .i64 0]:=(hb1.block (w.alloc (.cells #[.slice none 0 0] 24)).heap.size (by simp)).trans ((Blk.new (w.alloc (.cells #[.slice none 0 0] 24)) 3 #[.int .i64 0]).alloc (.cells #[.int .i64 0] 31))
  simpa using h
 have b3:Blk w1 (w.heap.size+1+1) 31 #[.int .i64 0]:=by
  have h:Blk w1 _ 31 #[.int .i64 0]:=(hb1.block ((w.alloc (.cells #[.slice none 0 0] 24)).alloc (.cells #[.int .i64 0] 3)).heap.size (by simp)).trans (Blk.new ((w.alloc (.cells #[.slice none 0 0] 24)).alloc (.cells #[.int .i64 0] 3)) 31 #[.int .i64 0])
  simpa using h
 have hb:Below w.heap.size w w1:=HB0.out.trans (hb1.mono (by simp; omega))
 have HM1:Hid (w1.cell? ⟨3,0,none⟩=some (.int .i64 mm)):=Lib.hid ((World.cell?_of_block (hb.block 3 hsz3)).trans HMM.out)
 clear hcells hg1 HMM
 generalize hT:w.heap.size=tb at b1 b2 b3 hb hs0 hg1' hsz3 ⊢
 have n1':¬ tb+1=tb:=by omega
 generalize hA:tb+1=ab at b2 b3 hs0 hg1' n1' ⊢
 have n2:¬ ab+1=ab:=by omega
 have n3:¬ ab+1=tb:=by omega
 have n4:¬ tb=ab:=by omega
 have n5:¬ tb=ab+1:=by omega
 have n6:¬ ab=ab+1:=by omega
 have hAB:tb<ab:=by omega
 generalize hE:ab+1=eb at b3 hs0 hg1' n2 n3 n5 n6 ⊢
 have hEB:ab<eb:=by omega
 have HT:=Lib.hid hT
 clear hb1 hT hA hE HB0 HL
 have c1:w1.cell? ⟨tb,0,none⟩=some (.slice none 0 0):=b1.cell 0
 have c2:w1.cell? ⟨ab,0,none⟩=some (.int .i64 0):=b2.cell 0
 have c3:w1.cell? ⟨eb,0,none⟩=some (.int .i64 0):=b3.cell 0
 have f1:=b1.free 0
 have f2:=b2.free 0
 have f3:=b3.free 0
 have l1:=aa c1
 have l2:=aa c2
 have l3:=aa c3
 have HB:=Lib.hid hb
 have D1:=Lib.hid b1; have D2:=Lib.hid b2; have D3:=Lib.hid b3
 clear hb b1 b2 b3
 go_wp2_with fail
 have hRs:((w1.setCell ⟨ab,0,none⟩ (.int .i64 0)).setCell ⟨eb,0,none⟩ (.int .i64 0)).heap.size=w1.heap.size:=by simp [World.setCell]
 have E1:=Lib.hid (((D1.out.far (g':=ab) n4 0 (.int .i64 0)).far (g':=eb) n5 0 (.int .i64 0)).alloc (.cells #[.slice (some ⟨g,0,none⟩) ts.length cap,.int .i64 0] 92))
 have E2:=Lib.hid (((D2.out.put 0 (.int .i64 0)).far (g':=eb) n6 0 (.int .i64 0)).alloc (.cells #[.slice (some ⟨g,0,none⟩) ts.length cap,.int .i64 0] 92))
 have E3:=Lib.hid (((D3.out.far (g':=ab) n2 0 (.int .i64 0)).put 0 (.int .i64 0)).alloc (.cells #[.slice (some ⟨g,0,none⟩) ts.length cap,.int .i64 0] 92))
 have EB:Hid (Below tb w (((w1.setCell ⟨ab,0,none⟩ (.int .i64 0)).setCell ⟨eb,0,none⟩ (.int .i64 0)).alloc (.cells #[.slice (some ⟨g,0,none⟩) ts.length cap,.int .i64 0] 92))):=Lib.hid (by
  have h1:=HB.out.size
  exact ((HB.out.setCell (by simp; omega) _).setCell (by simp; omega) _).alloc (by rw [hRs]; omega) _)
 have ER:Hid (RD (((w1.setCell ⟨ab,0,none⟩ (.int .i64 0)).setCell ⟨eb,0,none⟩ (.int .i64 0)).alloc (.cells #[.slice (some ⟨g,0,none⟩) ts.length cap,.int .i64 0] 92)) w1.heap.size ts 0):=Lib.hid (by
  have hk:∀ k,k<w1.heap.size→k≠ab→k≠eb→(((w1.setCell ⟨ab,0,none⟩ (.int .i64 0)).setCell ⟨eb,0,none⟩ (.int .i64 0)).alloc (.cells #[.slice (some ⟨g,0,none⟩) ts.length cap,.int .i64 0] 92)).heap[k]? = w1.heap[k]?:=fun k h1 h2 h3=>(Below.heap_alloc _ _ _ (by rw [hRs]; exact h1)).trans ((Below.heap_setCell _ _ _ _ h3).trans (Below.heap_setCell _ _ _ _ h2))
  refine⟨⟨g,0,cap,by omega,hg2,hcap,?_,fun i t hi=>(HCELLS.out i t hi).of (hk g hg2 (by omega) (by omega))⟩,jB HX.out,mm,(World.cell?_of_block (hk 3 (by omega) (by omega) (by omega))).trans HM1.out⟩
  have:=Blk.new ((w1.setCell ⟨ab,0,none⟩ (.int .i64 0)).setCell ⟨eb,0,none⟩ (.int .i64 0)) 92 #[.slice (some ⟨g,0,none⟩) ts.length cap,.int .i64 0]
  rw [hRs] at this
  exact this)
 have eR:eb<w1.heap.size:=by omega
 clear D1 D2 D3 HB HCELLS HM1 hRs c1 c2 c3 f1 f2 f3 l1 l2 l3
 generalize (((w1.setCell ⟨ab,0,none⟩ (.int .i64 0)).setCell ⟨eb,0,none⟩ (.int .i64 0)).alloc (.cells #[.slice (some ⟨g,0,none⟩) ts.length cap,.int .i64 0] 92))=w2 at *
 generalize w1.heap.size=R at *
 refine (dX R 0 1 ts w2 ER.out).mono ?_
 rintro e w3 ⟨X,rfl,hX,hXb,hb3⟩
 have hR2:=ER.out.lt.1
 have HR3:=Lib.hid (ER.out.below hb3 hR2)
 have HS3:Hid (wy w3 tb ab eb R X w3.heap.size):=Lib.hid ⟨(hb3.block tb (by omega)).trans E1.out,(hb3.block ab (by omega)).trans E2.out,(hb3.block eb (by omega)).trans E3.out,hAB,hEB,eR,by omega,hXb.lt⟩
 have HI3:=Lib.hid (aO.new (L:=w3.heap.size) hXb hXb.lt (Nat.le_refl _))
 have HB3:Hid (Below tb w w3):=Lib.hid (EB.out.trans (hb3.mono (by omega)))
 have hRX:R<X:=by omega
 clear hb3 hXb E1 E2 E3 EB ER
 obtain ⟨L,hL⟩:∃ L,L=w3.heap.size:=⟨_,rfl⟩
 rw [← hL] at HS3 HI3
 go_wp2_with fail
 have HP:=Lib.hid (show progS ts=match partsS (16*ts.length+16) [] ts with | .error e=>.error e | .ok l=>.ok (.mk 1 [] 0 (nowAt ts) l) from rfl)
 have HPF:=Lib.hid (lH (16*ts.length+16) [] ts (jB HX.out) (by omega))
 have hct:ts.length≤65537:=by have:=Fa (l:=src) (p:=0) (ts:=ts) (by rw [← je]; exact HX.out); omega
 obtain ⟨f0,hf0⟩:∃ f,f=16*ts.length+16:=⟨_,rfl⟩
 rw [← hf0] at HP HPF
 clear hf0
 go_loopg [] f0 (fun gk wr=>∃ (acc:List Item) (ts':List Tok) (C:Nat),Hid (RD wr R ts' 0∧au X R w3 wr∧L≤wr.heap.size∧acc.length+ts'.length≤65537)∧Hid (aO wr X L C (.mk 1 [] 0 (nowAt ts) acc))∧Hid (partsS gk acc ts'=partsS f0 [] ts))
 case atStart=>exact⟨[],ts,L,Lib.hid ⟨HR3.out,au.refl _ _ _,Nat.le_of_eq hL,by simpa using hct⟩,HI3,Lib.hid rfl⟩
 case round =>
  obtain ⟨acc,ts',C,HA,HI,HG⟩:=hrel
  obtain ⟨t',r',rfl⟩:=HA.out.1.fin.cons
  have e0:=mH
  cases gk with
  | zero =>
   exfalso
   have:=HG.out
   rw [show partsS 0 acc (t' :: r')=.error aI from rfl] at this
   exact HPF.out this.symm
  | succ gk =>
   by_cases hk:t'.kind=5
   case pos =>
    have kk:((t'.kind:Int) != 5)=false:=by simp [hk]
    have HE:Hid (progS ts=.ok (.mk 1 [] 0 (nowAt ts) acc)):=Lib.hid (by
     rw [HP.out,← HG.out]
     have:partsS (gk+1) acc (t' :: r')=.ok acc:=by unfold partsS; rw [if_pos (show aj (t' :: r')=5 from hk)]
     rw [this])
    clear hk
    go_wp2_with fail
    refine (dP R t' r' 0 _ HA.out.1).mono ?_; rintro e w4 ⟨rfl,hb4⟩; unfold eY
    have HK4:=Lib.hid (HA.out.2.1.below hb4 (by have:=HI.out.top; have:=HI.out.lt; have:=HI.out.le; omega))
    have HI4:=Lib.hid (HI.out.keep (.of hb4) HI.out.top hRX)
    have HS4:=Lib.hid (HS3.out.keep HK4.out)
    clear hb4 HI HA
    go_wp2_with fail
    have hsz:=vg HX.out HE.out
    have hX4:X<w4.heap.size:=by have:=HI4.out.top; have:=HI4.out.lt; have:=HI4.out.le; omega
    refine (FE (.mk 1 [] 0 (nowAt ts) acc) tb X w4.heap.size (.slice none 0 0) [] w4 ⟨by omega,Nat.le_refl _,HS4.out.t,World.ownsRow_nil _ _ _ _,by simp⟩ (HI4.out.close.mono (fun j hj hlt=>⟨by omega,hlt⟩)) (by simp only [List.length_nil]; omega)).mono ?_
    rintro e w5 ⟨rfl,hfr,v',l2,htw,hmap,hown,hkids⟩
    rw [List.nil_append] at htw
    obtain ⟨A,cc,rfl⟩:=bJ htw.row
    have d1:w5.cell? ⟨tb,0,none⟩=some (.slice A l2.length cc):=htw.blk.cell 0
    have q2:Blk w5 ab 3 #[.int .i64 0]:=(hfr.block ab (by omega) (by omega) (by simp [Value.ownBlock])).trans HS4.out.a
    have q3:Blk w5 eb 31 #[.int .i64 0]:=(hfr.block eb (by omega) (by omega) (by simp [Value.ownBlock])).trans HS4.out.e
    have d2:w5.cell? ⟨ab,0,none⟩=some (.int .i64 0):=q2.cell 0
    have d3:w5.cell? ⟨eb,0,none⟩=some (.int .i64 0):=q3.cell 0
    have g1:=htw.blk.free 0
    have g2:=q2.free 0
    have g3:=q3.free 0
    have k1:=aa d1
    have k2:=aa d2
    have k3:=aa d3
    have HTW:=Lib.hid htw; have Q2:=Lib.hid q2; have Q3:=Lib.hid q3; have HFR:=Lib.hid hfr
    have HMAP:=Lib.hid hmap
    clear htw hfr hmap hown hkids q2 q3
    go_wp2_with fail
    have hb4:w4.heap.size≤w5.heap.size:=HFR.out.size
    have far:∀ j,j≠tb→j≠ab→j≠eb→(((w5.setCell ⟨tb,0,none⟩ (.slice A l2.length cc)).setCell ⟨ab,0,none⟩ (.int .i64 0)).setCell ⟨eb,0,none⟩ (.int .i64 0)).heap[j]? = w5.heap[j]?:=fun j h1 h2 h3=>(Below.heap_setCell _ _ _ _ h3).trans ((Below.heap_setCell _ _ _ _ h2).trans (Below.heap_setCell _ _ _ _ h1))
    have G1:=((HTW.out.blk.put 0 (.slice A l2.length cc)).far (g':=ab) n4 0 (.int .i64 0)).far (g':=eb) n5 0 (.int .i64 0)
    have G2:=((Q2.out.far (g':=tb) n1' 0 (.slice A l2.length cc)).put 0 (.int .i64 0)).far (g':=eb) n6 0 (.int .i64 0)
    have G3:=((Q3.out.far (g':=tb) n3 0 (.slice A l2.length cc)).far (g':=ab) n2 0 (.int .i64 0)).put 0 (.int .i64 0)
    have hBW:Below tb w (((w5.setCell ⟨tb,0,none⟩ (.slice A l2.length cc)).setCell ⟨ab,0,none⟩ (.int .i64 0)).setCell ⟨eb,0,none⟩ (.int .i64 0)):=by
     have k4:Below tb w w4:=HB3.out.trans ⟨HK4.out.os,HK4.out.tape,HK4.out.output,HK4.out.size,fun j hj=>HK4.out.block j (by omega) (by omega)⟩
     have k5:Below tb w w5:=k4.trans ⟨HFR.out.os,HFR.out.tape,HFR.out.output,HFR.out.size,fun j hj=>HFR.out.block j (by omega) (by omega) (by simp [Value.ownBlock])⟩
     exact ((k5.setCell (by simp) _).setCell (by simp; omega) _).setCell (by simp; omega) _
    generalize (((w5.setCell ⟨tb,0,none⟩ (.slice A l2.length cc)).setCell ⟨ab,0,none⟩ (.int .i64 0)).setCell ⟨eb,0,none⟩ (.int .i64 0))=w6 at *
    rw [HT.out]
    refine leaves_cons (f:=49) (args:=#[.pointer (some ⟨tb,0,none⟩),.pointer (some ⟨ab,0,none⟩),.pointer (some ⟨eb,0,none⟩)]) (by simp) rfl ?_
    refine (AR ⟨tb,0,none⟩ ⟨ab,0,none⟩ ⟨eb,0,none⟩ w6).mono ?_
    rintro e u w' ⟨rfl,rfl,rfl⟩
    refine⟨.tuple #[.agg #[.slice A l2.length cc],.int .i64 0,.int .i64 0],wo (by simp) (by simp) (by simp) (G1.cell 0) (G2.cell 0) (G3.cell 0),?_,hBW⟩
    have hps:bD src=.ok (.mk 1 [] 0 (nowAt ts) acc):=by rw [← HE.out]; unfold bD; rw [HX.out]
    unfold fM
    rw [hps]
    refine⟨_,rfl,l2,HMAP.out,?_,fun m hm=>?_⟩
    ·rw [HT.out]
     exact vE (dG HTW.out.row (fun q e=>far q (by have:=(HTW.out.row.lt q e).1; omega) (by have:=(HTW.out.row.lt q e).1; omega) (by have:=(HTW.out.row.lt q e).1; omega))) (fun q e=>by have:=(HTW.out.row.lt q e).1; omega)
    ·rw [HT.out]
     have hk:=HTW.out.kids m hm
     exact vE (dG hk (fun q e=>far q (by have:=(hk.lt q e).1; omega) (by have:=(hk.lt q e).1; omega) (by have:=(hk.lt q e).1; omega))) (fun q e=>by have:=(hk.lt q e).1; omega)
   case neg =>
    have kk:((t'.kind:Int) != 5)=true:=by simp; omega
    have HG2:Hid ((match gV gk (t' :: r') with
     | .error e=>.error e
     | .ok (x,ts1)=>partsS gk (acc ++ [x]) ts1)=partsS f0 [] ts):=Lib.hid (by rw [← HG.out,jc _ _ _ (show aj (t' :: r')≠5 from hk)]; cases gV gk (t' :: r') <;> rfl)
    clear HG hk
    have HNE:Hid (gV gk (t' :: r')≠.error aI):=Lib.hid (fun hc=>HPF.out (by rw [← HG2.out,hc]))
    go_wp2_with fail
    refine (dP R t' r' 0 _ HA.out.1).mono ?_; rintro e w4 ⟨rfl,hb4⟩; unfold eY
    have HR4:=Lib.hid (HA.out.1.below hb4 HA.out.1.lt.1)
    have HK4:=Lib.hid (HA.out.2.1.below hb4 (by have:=HI.out.top; have:=HI.out.lt; have:=HI.out.le; omega))
    have HI4:=Lib.hid (HI.out.keep (.of hb4) HI.out.top hRX)
    have HN:=Lib.hid HA.out.2.2.2
    clear hb4 HI HA
    go_wp2_with fail
    refine (dH R t' r' 0 [118,97,114] _ HR4.out).mono ?_; rintro e w5 ⟨rfl,hb5⟩
    have HR5:=Lib.hid (HR4.out.below hb5 HR4.out.lt.1)
    have HK5:=Lib.hid (HK4.out.below hb5 (by have:=HI4.out.top; have:=HI4.out.lt; have:=HI4.out.le; omega))
    have HI5:=Lib.hid (HI4.out.keep (.of hb5) HI4.out.top hRX)
    clear hb5 HI4 HK4 HR4
    have hX5:X<w5.heap.size:=by have:=HI5.out.top; have:=HI5.out.lt; have:=HI5.out.le; omega
    have hXL:=HI5.out.lt
    have hLC:=HI5.out.le
    have hC5:=HI5.out.top
    cases hi:isT [118,97,114] (t' :: r')
    case false =>
     have hpe:gV gk (t' :: r')=dU gk (t' :: r'):=by unfold gV; rw [hi]; rfl
     rw [hpe] at HG2 HNE
     have HPE:=Lib.hid hpe
     clear hpe
     clear hi
     go_wp2_with fail
     have CALL:=Lib.hid (Gq gk R 65537 (t' :: r') w5 HR5.out (by have:=HN.out; omega) (by omega) HNE.out)
     cases hW:dU gk (t' :: r') with
     | error q =>
      obtain ⟨p,er⟩:=q
      have HC:=Lib.hid ((hW ▸ CALL.out).mono (fun _ _=>aX.no))
      have HE:Hid (progS ts=.error (p,er)):=Lib.hid (by rw [HP.out,← HG2.out,hW])
      clear hW CALL HG2 HNE
      refine HC.out.mono ?_
      rintro e w6 ⟨rfl,hk6⟩
      have HK6:=Lib.hid (HK5.out.trans hk6 (by omega))
      have HS6:=Lib.hid (HS3.out.keep HK6.out)
      refine leaves_cons (P:=Tryz.prog) (fn:=Tryz.f24) (R:=fun e w'=>fM w w' src e∧Below w.heap.size w w') (u:=.panicking [{ v:=gG p er,recovered:=false }]) (f:=49) (args:=#[.pointer (some ⟨tb,0,none⟩),.pointer (some ⟨ab,0,none⟩),.pointer (some ⟨eb,0,none⟩)]) (by simp) rfl ?_
      refine (qz tb ab eb p er 0 w6 _ _ _ HS6.out.t HS6.out.a HS6.out.e n4 n5 n6).mono ?_
      rintro e u w7 ⟨rfl,rfl,c1,c2,c3,o1,o2,o3,o4,o5⟩
      refine⟨.tuple #[.agg #[.slice none 0 0],.int .i64 p,.int .i64 er],wo (by simp) (by simp) (by simp) c1 c2 c3,?_,?_⟩
      ·have hps:bD src=.error (p,er):=by rw [← HE.out]; unfold bD; rw [HX.out]
       unfold fM
       rw [hps]
      ·rw [HT.out]
       have k6:Below tb w w6:=HB3.out.trans ⟨HK6.out.os,HK6.out.tape,HK6.out.output,HK6.out.size,fun j hj=>HK6.out.block j (by omega) (by omega)⟩
       exact k6.trans ⟨o1,o2,o3,o4,fun j hj=>o5 j (by have:=HS6.out.t.lt; omega) (by omega) (by omega) (by omega)⟩
     | ok q =>
      obtain ⟨x,ts1⟩:=q
      have HC:=Lib.hid ((hW ▸ CALL.out).mono (fun _ _=>aX.yes))
      have HG3:Hid (partsS gk (acc ++ [x]) ts1=partsS f0 [] ts):=Lib.hid (by rw [← HG2.out,hW])
      have HLN:=Lib.hid ((tq (f:=gk) HR5.out.fin (show gV gk (t' :: r')=.ok (x,ts1) by rw [HPE.out,hW])).2)
      clear hW CALL HG2 HNE
      refine HC.out.mono ?_
      rintro e w6 ⟨p,rfl,hi6,hr6,hk6⟩
      have HK6:=Lib.hid (HK5.out.trans hk6 (by omega))
      have HI6:=Lib.hid ((HI5.out.grow hC5 (Nat.le_refl _)).keep hk6 (Nat.le_refl _) hRX)
      have HR6:=Lib.hid hr6
      have HX6:=Lib.hid hi6
      have hs6:w5.heap.size≤w6.heap.size:=hk6.size
      clear hi6 hr6 hk6 HK5 HI5 HR5
      go_wp2_with fail
      have hacc:acc.length≤100000:=by have:=HN.out; omega
      refine (fG X L w5.heap.size w6.heap.size 1 1 (nowAt ts) [] 0 acc [x] [p] _ (HI6.out.alloc _) (Blk.new w6 93 _) (KidsAt.one (HX6.out.alloc _)) rfl (by omega) (by omega)).mono ?_
      rintro e w7 ⟨rfl,it7,k7⟩
      have KK7:=Lib.hid ((HK6.out.alloc (by omega) (.cells #[.pointer (some ⟨p,0,none⟩)] 93)).trans (k7.item (B:=X) (Nat.le_refl _) hXL) (Nat.le_refl _))
      have HR7:=Lib.hid ((HR6.out.alloc (.cells #[.pointer (some ⟨p,0,none⟩)] 93)).item k7 hRX hXL)
      have IT7:=Lib.hid it7
      clear it7 k7
      go_wp2_with fail
      go_roundg gk
      case measure=>omega
      case rel=>exact⟨acc ++ [x],ts1,_,Lib.hid ⟨HR7.out,KK7.out,by have:=KK7.out.size; omega,by have:=HN.out; have:=HLN.out; simp only [List.length_cons,List.length_append,List.length_nil] at *; omega⟩,IT7,HG3⟩
    case true =>
     have hpe:gV gk (t' :: r')=dO (t' :: r'):=by unfold gV; rw [hi]; rfl
     rw [hpe] at HG2 HNE
     have HPE:=Lib.hid hpe
     clear hpe
     clear hi
     go_wp2_with fail
     have CALL:=Lib.hid (Et R 0 (t' :: r') w5 HR5.out)
     cases hW:dO (t' :: r') with
     | error q =>
      obtain ⟨p,er⟩:=q
      have HC:=Lib.hid ((hW ▸ CALL.out).mono (fun _ _=>aX.no))
      have HE:Hid (progS ts=.error (p,er)):=Lib.hid (by rw [HP.out,← HG2.out,hW])
      clear hW CALL HG2 HNE
      refine HC.out.mono ?_
      rintro e w6 ⟨rfl,hk6⟩
      have HK6:=Lib.hid (HK5.out.trans hk6 (by omega))
      have HS6:=Lib.hid (HS3.out.keep HK6.out)
      refine leaves_cons (P:=Tryz.prog) (fn:=Tryz.f24) (R:=fun e w'=>fM w w' src e∧Below w.heap.size w w') (u:=.panicking [{ v:=gG p er,recovered:=false }]) (f:=49) (args:=#[.pointer (some ⟨tb,0,none⟩),.pointer (some ⟨ab,0,none⟩),.pointer (some ⟨eb,0,none⟩)]) (by simp) rfl ?_
      refine (qz tb ab eb p er 0 w6 _ _ _ HS6.out.t HS6.out.a HS6.out.e n4 n5 n6).mono ?_
      rintro e u w7 ⟨rfl,rfl,c1,c2,c3,o1,o2,o3,o4,o5⟩
      refine⟨.tuple #[.agg #[.slice none 0 0],.int .i64 p,.int .i64 er],wo (by simp) (by simp) (by simp) c1 c2 c3,?_,?_⟩
      ·have hps:bD src=.error (p,er):=by rw [← HE.out]; unfold bD; rw [HX.out]
       unfold fM
       rw [hps]
      ·rw [HT.out]
       have k6:Below tb w w6:=HB3.out.trans ⟨HK6.out.os,HK6.out.tape,HK6.out.output,HK6.out.size,fun j hj=>HK6.out.block j (by omega) (by omega)⟩
       exact k6.trans ⟨o1,o2,o3,o4,fun j hj=>o5 j (by have:=HS6.out.t.lt; omega) (by omega) (by omega) (by omega)⟩
     | ok q =>
      obtain ⟨x,ts1⟩:=q
      have HC:=Lib.hid ((hW ▸ CALL.out).mono (fun _ _=>aX.yes))
      have HG3:Hid (partsS gk (acc ++ [x]) ts1=partsS f0 [] ts):=Lib.hid (by rw [← HG2.out,hW])
      have HLN:=Lib.hid ((tq (f:=gk) HR5.out.fin (show gV gk (t' :: r')=.ok (x,ts1) by rw [HPE.out,hW])).2)
      clear hW CALL HG2 HNE
      refine HC.out.mono ?_
      rintro e w6 ⟨p,rfl,hi6,hr6,hk6⟩
      have HK6:=Lib.hid (HK5.out.trans hk6 (by omega))
      have HI6:=Lib.hid ((HI5.out.grow hC5 (Nat.le_refl _)).keep hk6 (Nat.le_refl _) hRX)
      have HR6:=Lib.hid hr6
      have HX6:=Lib.hid hi6
      have hs6:w5.heap.size≤w6.heap.size:=hk6.size
      clear hi6 hr6 hk6 HK5 HI5 HR5
      go_wp2_with fail
      have hacc:acc.length≤100000:=by have:=HN.out; omega
      refine (fG X L w5.heap.size w6.heap.size 1 1 (nowAt ts) [] 0 acc [x] [p] _ (HI6.out.alloc _) (Blk.new w6 93 _) (KidsAt.one (HX6.out.alloc _)) rfl (by omega) (by omega)).mono ?_
      rintro e w7 ⟨rfl,it7,k7⟩
      have KK7:=Lib.hid ((HK6.out.alloc (by omega) (.cells #[.pointer (some ⟨p,0,none⟩)] 93)).trans (k7.item (B:=X) (Nat.le_refl _) hXL) (Nat.le_refl _))
      have HR7:=Lib.hid ((HR6.out.alloc (.cells #[.pointer (some ⟨p,0,none⟩)] 93)).item k7 hRX hXL)
      have IT7:=Lib.hid it7
      clear it7 k7
      go_wp2_with fail
      go_roundg gk
      case measure=>omega
      case rel=>exact⟨acc ++ [x],ts1,_,Lib.hid ⟨HR7.out,KK7.out,by have:=KK7.out.size; omega,by have:=HN.out; have:=HLN.out; simp only [List.length_cons,List.length_append,List.length_nil] at *; omega⟩,IT7,HG3⟩
theorem pI (a:Option Addr) (c:Nat) (src:List UInt8) (w:World) (hn:src.length≤65536) (hl:eP w a src) (hw:EW w) (hmx:∃ m,w.cell? ⟨3,0,none⟩=some (.int .i64 m)) :
  Calls Tryz.prog 24 #[.slice a src.length c] w fun e w'=>fM w w' src e∧Below w.heap.size w w':=by
 cases hx:fZ src with
 | error q =>
  obtain ⟨p,er⟩:=q
  refine (x8 a c src p er w hn hl hw hx).mono ?_
  rintro e w' ⟨rfl,hb⟩
  refine⟨?_,hb⟩
  have hps:bD src=.error (p,er):=by unfold bD; rw [hx]
  unfold fM
  rw [hps]
 | ok ts=>exact parse_lexok a c src ts w hn hl hw hmx hx
end Go.Proofs.YtkkeocnnecegbaaGreatDoor
