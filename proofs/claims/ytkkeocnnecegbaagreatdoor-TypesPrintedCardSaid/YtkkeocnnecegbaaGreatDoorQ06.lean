/- Joint text: PwA, PwB, PwC. By an AI agent. -/
import Derived.Test.YtkkeocnnecegbaaGreatDoorQ05
import Derived.Test.YtkkeocnnecegbaaGreatDoorQ00
import Derived.WalkLawsBesides
import Derived.Deep.AppendLies
set_option linter.all false
set_option maxRecDepth 100000
set_option maxHeartbeats 64000000
namespace Go.Proofs.YtkkeocnnecegbaaGreatDoor
open Go.RowKit
structure au (B R:Nat) (w w':World):Prop where
 os:w'.os=w.os
 tape:w'.tape=w.tape
 output:w'.output=w.output
 size:w.heap.size≤w'.heap.size
 block:∀ k,k<B→k≠R→w'.heap[k]? = w.heap[k]?
theorem au.refl (B R:Nat) (w:World):au B R w w:=⟨rfl,rfl,rfl,Nat.le_refl _,fun _ _ _=>rfl⟩
theorem au.trans {B C R:Nat} {a b c:World} (h:au B R a b) (k:au C R b c) (hB:B≤C):au B R a c :=
 ⟨k.os.trans h.os,k.tape.trans h.tape,k.output.trans h.output,Nat.le_trans h.size k.size,fun i hi hr=>(k.block i (by omega) hr).trans (h.block i hi hr)⟩
theorem au.of {B R:Nat} {a b:World} (h:Below B a b):au B R a b:=⟨h.os,h.tape,h.output,h.size,fun k hk _=>h.block k hk⟩
theorem au.below {B C R:Nat} {a b c:World} (h:au B R a b) (k:Below C b c) (hB:B≤C):au B R a c:=h.trans (.of k) hB
theorem au.mono {B C R:Nat} {a b:World} (h:au B R a b) (hC:C≤B):au C R a b:=⟨h.os,h.tape,h.output,h.size,fun k hk hr=>h.block k (by omega) hr⟩
theorem au.setCell {B R:Nat} {a w:World} (h:au B R a w) {p:Addr} (hp:p.block=R∨B≤p.block) (u:Value):au B R a (w.setCell p u) :=
 h.trans ⟨rfl,rfl,rfl,by simp [World.setCell],fun k hk hr=>Below.heap_setCell _ _ _ _ (by omega)⟩ (Nat.le_refl _)
theorem au.alloc {B R:Nat} {a w:World} (h:au B R a w) (hB:B≤w.heap.size) (o:Obj):au B R a (w.alloc o):=h.below ((Below.refl B w).alloc hB o) (Nat.le_refl _)
theorem lS.of {w w':World} {b o:Nat} {t:Tok} (h:lS w b o t) (hb:w'.heap[b]? = w.heap[b]?):lS w' b o t:=by
 have e:∀ k,w'.cell? ⟨b,k,none⟩=w.cell? ⟨b,k,none⟩:=fun k=>World.cell?_of_block (w:=w) hb
 exact⟨(e _).trans h.1,(e _).trans h.2.1,(e _).trans h.2.2.1,(e _).trans h.2.2.2⟩
structure RD (w:World) (R:Nat) (ts:List Tok) (d:Nat):Prop where
 ex:∃ g o c,3<g∧g<R∧ts.length≤c∧Blk w R 92 #[.slice (some ⟨g,o,none⟩) ts.length c,.int .i64 d]∧∀ i t,ts[i]? = some t→lS w g (o+i*4) t
 fin:ah ts
 max:∃ m,w.cell? ⟨3,0,none⟩=some (.int .i64 m)
theorem RD.lt {w:World} {R:Nat} {ts:List Tok} {d:Nat} (h:RD w R ts d):R<w.heap.size∧3<R:=by
 obtain ⟨g,o,c,h1,h2,h3,h4,h5⟩:=h.ex
 exact⟨h4.lt,by omega⟩
theorem RD.same {w w':World} {R:Nat} {ts:List Tok} {d:Nat} (h:RD w R ts d) (hs:∀ k,k≤R→w'.heap[k]? = w.heap[k]?):RD w' R ts d:=by
 obtain ⟨⟨g,o,c,h1,h2,h3,h4,h5⟩,hf,m,hm⟩:=h
 exact⟨⟨g,o,c,h1,h2,h3,(hs R (Nat.le_refl _)).trans h4,fun i t hi=>(h5 i t hi).of (hs g (by omega))⟩,hf,m,(World.cell?_of_block (w:=w) (hs 3 (by omega))).trans hm⟩
theorem RD.below {w w':World} {R:Nat} {ts:List Tok} {d B:Nat} (h:RD w R ts d) (hb:Below B w w') (hB:R<B):RD w' R ts d:=h.same (fun k hk=>hb.block k (by omega))
theorem RD.set {w:World} {R:Nat} {ts:List Tok} {d:Nat} (h:RD w R ts d) {p:Addr} (hp:R<p.block) (u:Value):RD (w.setCell p u) R ts d:=h.same (fun k hk=>Below.heap_setCell _ _ _ _ (by omega))
theorem RD.alloc {w:World} {R:Nat} {ts:List Tok} {d:Nat} (h:RD w R ts d) (o:Obj):RD (w.alloc o) R ts d:=h.below ((Below.refl w.heap.size w).alloc (Nat.le_refl _) o) h.lt.1
def eY (t:Tok):Value:=.agg #[.int .u8 t.kind,.string ⟨t.text.toArray⟩,.int .i64 t.n,.int .i64 t.at']
def gG (p:Nat) (er:Int):Value:=.iface 89 (.agg #[.int .i64 p,.int .i64 er])
theorem dP (R:Nat) (t:Tok) (r:List Tok) (d:Nat) (w:World) (h:RD w R (t :: r) d) :
  Calls Tryz.prog 51 #[.pointer (some ⟨R,0,none⟩)] w fun e w'=>e=.returned (eY t)∧Below w.heap.size w w':=by
 obtain ⟨⟨g,o,c,h1,h2,h3,h4,h5⟩,hf,m,hm⟩:=h
 obtain ⟨t0,t1,t2,t3⟩:=h5 0 t rfl
 simp only [Nat.zero_mul,Nat.add_zero] at t0 t1 t2 t3
 have hl:(0:Int)<((t :: r).length:Int):=by simp
 have hl':0<(t :: r).length:=by simp
 unfold eY
 generalize (t :: r).length=n at *
 have r0:w.cell? ⟨R,0,none⟩=some (.slice (some ⟨g,o,none⟩) n c):=h4.cell 0
 have hR:=h4.lt
 have hg:=aa t0
 clear h5 h4 hm hf
 go_enter Tryz.func51,Tryz.ntmps51
 go_wp2_with fail
 exact bodyPost_ret (v:=.agg #[.int .u8 t.kind,.string ⟨t.text.toArray⟩,.int .i64 t.n,.int .i64 t.at']) (by simp [results,Tryz.results51,go_sem]) rfl ⟨rfl,(Below.refl _ _).alloc (Nat.le_refl _) _⟩
theorem mH (a b c d:Value) (w:World):(Instr.field 51 (.agg #[a,b,c,d]) 0).run Tryz.prog w=.ok a w:=by kernel_rfl
theorem qW (a b c d:Value) (w:World):(Instr.field 51 (.agg #[a,b,c,d]) 1).run Tryz.prog w=.ok b w:=by kernel_rfl
theorem Gr (a b c d:Value) (w:World):(Instr.field 51 (.agg #[a,b,c,d]) 2).run Tryz.prog w=.ok c w:=by kernel_rfl
theorem FL (a b c d:Value) (w:World):(Instr.field 51 (.agg #[a,b,c,d]) 3).run Tryz.prog w=.ok d w:=by kernel_rfl
theorem xq (R:Nat) (t:Tok) (r:List Tok) (d:Nat) (er:Int) (w:World) (h:RD w R (t :: r) d) :
  Calls Tryz.prog 143 #[.pointer (some ⟨R,0,none⟩),.int .i64 er] w fun e w'=>e=.panicked [{ v:=gG t.at' er,recovered:=false }]∧Below w.heap.size w w':=by
 have H:=Lib.hid h; clear h
 have f3:=FL
 go_enter Tryz.func143,Tryz.ntmps143
 go_wp2_with (go_at_call 51; refine (dP R t r d _ H.out).mono ?_; rintro e w1 ⟨rfl,hb⟩; unfold eY)
 exact⟨rfl,rfl,hb⟩
theorem qH (x:List UInt8) (t:Tok) (r:List Tok):isT x (t :: r)=((t.kind == 2 || t.kind == 4) && t.text == x):=rfl
theorem ed {a b:Bool} (h:a=b):Ending.returned (.bool a)=.returned (.bool b):=by rw [h]
theorem dH (R:Nat) (t:Tok) (r:List Tok) (d:Nat) (x:List UInt8) (w:World) (h:RD w R (t :: r) d) :
  Calls Tryz.prog 52 #[.pointer (some ⟨R,0,none⟩),.string ⟨x.toArray⟩] w fun e w'=>e=.returned (.bool (isT x (t :: r)))∧Below w.heap.size w w':=by
 have H:=Lib.hid h; clear h
 go_enter Tryz.func52,Tryz.ntmps52
 go_wp2_with (go_at_call 51; refine (dP R t r d _ H.out).mono ?_; rintro e w1 ⟨rfl,hb⟩; unfold eY)
 ·have hk:(t.kind:Int)=2:=by assumption
  go_ret
  exact⟨ed (by rw [qH,show t.kind=2 by omega]; simp),hb.alloc hb.size _⟩
 ·have hk:(t.kind:Int)=4:=by assumption
  go_ret
  exact⟨ed (by rw [qH,show t.kind=4 by omega]; simp),hb.alloc hb.size _⟩
 ·have hk:¬ (t.kind:Int)=4:=by assumption
  have hk2:¬ (t.kind:Int)=2:=by assumption
  go_ret
  refine⟨ed ?_,hb.alloc hb.size _⟩
  rw [qH,show (t.kind == 2)=false by simp; omega,show (t.kind == 4)=false by simp; omega]; rfl
theorem um (R:Nat) (t:Tok) (r:List Tok) (d:Nat) (w:World) (h:RD w R (t :: r) d) :
  Calls Tryz.prog 92 #[.pointer (some ⟨R,0,none⟩),.bool false] w fun e w'=>e=.panicked [{ v:=gG t.at' 140,recovered:=false }]∧Below w.heap.size w w':=by
 have H:=Lib.hid h; clear h
 go_enter Tryz.func92,Tryz.ntmps92
 go_wp2_with (go_at_call 143; refine (xq R t r d 140 _ (H.out.alloc _)).mono ?_; rintro e w1 ⟨rfl,hb⟩)
 exact⟨rfl,rfl,((Below.refl _ _).alloc (Nat.le_refl _) _).trans (hb.mono (by simp))⟩
theorem kJ (R:Nat) (t:Tok) (r:List Tok) (d:Nat) (w:World) (h:RD w R (t :: r) d) (hk:t.kind≠5) :
  Calls Tryz.prog 92 #[.pointer (some ⟨R,0,none⟩),.bool true] w fun e w'=>e=.returned (eY t)∧RD w' R r d∧au w.heap.size R w w':=by
 have H:=Lib.hid h; clear h
 go_enter Tryz.func92,Tryz.ntmps92
 go_wp2_with fail
 refine (dP R t r d _ (H.out.alloc _)).mono ?_; rintro e w1 ⟨rfl,hb⟩
 have hb1:Below w.heap.size w w1:=((Below.refl _ _).alloc (Nat.le_refl _) _).trans (hb.mono (by simp))
 have HR:=H.out.below hb1 H.out.lt.1
 have hQ:Blk w1 w.heap.size 51 #[.int .u8 0,.string ⟨#[]⟩,.int .i64 0,.int .i64 0]:=(Blk.new w 51 _).below hb
 have hRw:=H.out.lt.1
 obtain ⟨⟨g,o,c,h1,h2,h3,h4,h5⟩,hf,m,hm⟩:=HR
 have hr:r≠[]:=by
  intro e; rw [e] at hf; cases hf with
  | one _ h=>exact hk h
  | more _ _ _ h=>cases h
 have hfr:ah r:=by
  cases hf with
  | one _ h=>exact absurd h hk
  | more _ _ _ h=>exact h
 have hl2:r.length+1=(t :: r).length:=rfl
 have hl1:1≤r.length:=List.length_pos_iff.2 hr
 unfold eY
 generalize (t :: r).length=n at *
 have r0:w1.cell? ⟨R,0,none⟩=some (.slice (some ⟨g,o,none⟩) n c):=h4.cell 0
 have rf:w1.frozen? ⟨R,0,none⟩=false:=h4.free 0
 have hR:=h4.lt
 have hg:g<w1.heap.size:=by omega
 have q0:w1.cell? ⟨w.heap.size,0,none⟩=some (.int .u8 0):=hQ.cell 0
 have q1:w1.cell? ⟨w.heap.size,1,none⟩=some (.string ⟨#[]⟩):=hQ.cell 1
 have q2:w1.cell? ⟨w.heap.size,2,none⟩=some (.int .i64 0):=hQ.cell 2
 have q3:w1.cell? ⟨w.heap.size,3,none⟩=some (.int .i64 0):=hQ.cell 3
 have e0:=hQ.free 0
 have e1:=hQ.free 1
 have e2:=hQ.free 2
 have e3:=hQ.free 3
 have hqR:¬ w.heap.size=R:=by omega
 have hq1:=hQ.lt
 have HB:=Lib.hid hb1
 have H4:=Lib.hid h4; have H5:=Lib.hid h5; have HM:=Lib.hid hm
 clear h4 hm hb hb1 hQ h5
 have hn1:(1:Int)≤(n:Int):=by omega
 have hc1:¬ (1:Int)=(c:Int):=by omega
 have hc2:¬ c=1:=by omega
 go_wp2_with fail
 refine bodyPost_ret (v:=.agg #[.int .u8 t.kind,.string ⟨t.text.toArray⟩,.int .i64 t.n,.int .i64 t.at']) ?_ rfl ⟨rfl,?_,?_⟩
 ·simp [results,Tryz.results92,go_sem,q0,q1,q2,q3,hq1]
 ·have far:∀ k,k≠R→k≠w.heap.size→(((((w1.setCell ⟨R,0,none⟩ (.slice (some ⟨g,o+4,none⟩) (n - 1) (c - 1))).setCell ⟨w.heap.size,0,none⟩ (.int .u8 t.kind)).setCell ⟨w.heap.size,1,none⟩ (.string ⟨t.text.toArray⟩)).setCell ⟨w.heap.size,2,none⟩ (.int .i64 t.n)).setCell ⟨w.heap.size,3,none⟩ (.int .i64 t.at')).heap[k]? = w1.heap[k]?:=fun k a b =>
   (Below.heap_setCell _ ⟨w.heap.size,3,none⟩ _ k b).trans ((Below.heap_setCell _ ⟨w.heap.size,2,none⟩ _ k b).trans ((Below.heap_setCell _ ⟨w.heap.size,1,none⟩ _ k b).trans ((Below.heap_setCell _ ⟨w.heap.size,0,none⟩ _ k b).trans (Below.heap_setCell _ ⟨R,0,none⟩ _ k a))))
  have a:=(((((H4.out.put 0 (.slice (some ⟨g,o+4,none⟩) (n - 1) (c - 1))).far (Ne.symm hqR) 0 (.int .u8 t.kind)).far (Ne.symm hqR) 1 (.string ⟨t.text.toArray⟩)).far (Ne.symm hqR) 2 (.int .i64 t.n)).far (Ne.symm hqR) 3 (.int .i64 t.at'))
  generalize (((((w1.setCell ⟨R,0,none⟩ (.slice (some ⟨g,o+4,none⟩) (n - 1) (c - 1))).setCell ⟨w.heap.size,0,none⟩ (.int .u8 t.kind)).setCell ⟨w.heap.size,1,none⟩ (.string ⟨t.text.toArray⟩)).setCell ⟨w.heap.size,2,none⟩ (.int .i64 t.n)).setCell ⟨w.heap.size,3,none⟩ (.int .i64 t.at'))=W at far a ⊢
  refine RD.alloc ⟨⟨g,o+4,c - 1,h1,h2,by omega,?_,?_⟩,hfr,m,?_⟩ _
  ·have e:n - 1=r.length:=by omega
   rw [e] at a
   exact a
  ·intro i u hi
   have:=H5.out (i+1) u (by simpa using hi)
   rw [show o+(i+1)*4=o+4+i*4 by omega] at this
   exact this.of (far g (by omega) (by omega))
  ·exact (World.cell?_of_block (w:=w1) (far 3 (by omega) (by omega))).trans HM.out
 ·exact ((((((au.of HB.out).setCell (p:=⟨R,0,none⟩) (Or.inl rfl) _).setCell (p:=⟨w.heap.size,0,none⟩) (Or.inr (Nat.le_refl _)) _).setCell (p:=⟨w.heap.size,1,none⟩) (Or.inr (Nat.le_refl _)) _).setCell (p:=⟨w.heap.size,2,none⟩) (Or.inr (Nat.le_refl _)) _).setCell (p:=⟨w.heap.size,3,none⟩) (Or.inr (Nat.le_refl _)) _).alloc (by have:=HB.out.size; simpa using this) _
theorem eX {R:Nat} {t:Tok} {r:List Tok} {d:Nat} {x:List UInt8} {w:World} (h:RD w R (t :: r) d) (hi:isT x (t :: r)=false) :
  Calls Tryz.prog 90 #[.pointer (some ⟨R,0,none⟩),.string ⟨x.toArray⟩] w fun e w'=>e=.panicked [{ v:=gG t.at' 140,recovered:=false }]∧Below w.heap.size w w':=by
 have H:=Lib.hid h; clear h
 have HI:=Lib.hid hi; clear hi
 go_enter Tryz.func90,Tryz.ntmps90
 go_wp2_with fail
 refine (dH R t r d x _ H.out).mono ?_; rintro e w1 ⟨rfl,hb⟩; rw [HI.out]
 have HR:=Lib.hid (H.out.below hb H.out.lt.1)
 go_wp2_with fail
 refine (um R t r d _ HR.out).mono ?_; rintro e w2 ⟨rfl,hb2⟩
 go_wp2_with fail
 exact⟨rfl,rfl,hb.trans (hb2.mono hb.size)⟩
theorem dN {R:Nat} {t:Tok} {r:List Tok} {d:Nat} {x:List UInt8} {w:World} (h:RD w R (t :: r) d) (hi:isT x (t :: r)=true) :
  Calls Tryz.prog 90 #[.pointer (some ⟨R,0,none⟩),.string ⟨x.toArray⟩] w fun e w'=>e=.returned (.tuple #[])∧RD w' R r d∧au w.heap.size R w w':=by
 have H:=Lib.hid h; clear h
 have HI:=Lib.hid hi; clear hi
 go_enter Tryz.func90,Tryz.ntmps90
 go_wp2_with fail
 refine (dH R t r d x _ H.out).mono ?_; rintro e w1 ⟨rfl,hb⟩; rw [HI.out]
 have HR:=Lib.hid (H.out.below hb H.out.lt.1)
 go_wp2_with fail
 refine (kJ R t r d _ HR.out (gJ HI.out)).mono ?_; rintro e w2 ⟨rfl,hr,hk⟩
 go_wp2_with fail
 go_end0
 exact⟨rfl,hr,(au.of hb).trans hk hb.size⟩
theorem jH {R:Nat} {t:Tok} {r:List Tok} {d:Nat} {w:World} (h:RD w R (t :: r) d) (hi:t.kind≠1) :
  Calls Tryz.prog 91 #[.pointer (some ⟨R,0,none⟩)] w fun e w'=>e=.panicked [{ v:=gG t.at' 140,recovered:=false }]∧Below w.heap.size w w':=by
 have H:=Lib.hid h; clear h
 have f0:=mH
 have f1:=qW
 have hk:((t.kind:Int) == 1)=false:=by simp; omega
 go_enter Tryz.func91,Tryz.ntmps91
 go_wp2_with fail
 refine (dP R t r d _ H.out).mono ?_; rintro e w1 ⟨rfl,hb⟩; unfold eY
 have HR:=Lib.hid (H.out.below hb H.out.lt.1)
 go_wp2_with fail
 refine (um R t r d _ HR.out).mono ?_; rintro e w2 ⟨rfl,hb2⟩
 go_wp2_with fail
 exact⟨rfl,rfl,hb.trans (hb2.mono hb.size)⟩
theorem gI {R:Nat} {t:Tok} {r:List Tok} {d:Nat} {w:World} (h:RD w R (t :: r) d) (hi:t.kind=1) :
  Calls Tryz.prog 91 #[.pointer (some ⟨R,0,none⟩)] w fun e w'=>e=.returned (.string ⟨t.text.toArray⟩)∧RD w' R r d∧au w.heap.size R w w':=by
 have H:=Lib.hid h; clear h
 have f0:=mH
 have f1:=qW
 have hk:((t.kind:Int) == 1)=true:=by simp [hi]
 have HI:=Lib.hid hi; clear hi
 go_enter Tryz.func91,Tryz.ntmps91
 go_wp2_with fail
 refine (dP R t r d _ H.out).mono ?_; rintro e w1 ⟨rfl,hb⟩; unfold eY
 have HR:=Lib.hid (H.out.below hb H.out.lt.1)
 go_wp2_with fail
 refine (kJ R t r d _ HR.out (by have:=HI.out; omega)).mono ?_; rintro e w2 ⟨rfl,hr,hk⟩; unfold eY
 go_wp2_with fail
 go_ret
 exact⟨rfl,hr,(au.of hb).trans hk hb.size⟩
theorem ah.cons {ts:List Tok} (h:ah ts):∃ t r,ts=t :: r:=by
 cases h with
 | one t _=>exact⟨t,[],rfl⟩
 | more t r _ _=>exact⟨t,r,rfl⟩
theorem dX (R d k:Nat) (ts:List Tok) (w:World) (h:RD w R ts d) :
  Calls Tryz.prog 50 #[.pointer (some ⟨R,0,none⟩),.int .u8 k] w fun e w'=>∃ X,e=.returned (.pointer (some ⟨X,0,none⟩))∧w.heap.size≤X∧Blk w' X 160 #[.int .u8 k,.string ⟨#[]⟩,.int .i64 0,.int .i64 (nowAt ts),.slice none 0 0,.slice none 0 0]∧Below w.heap.size w w':=by
 obtain ⟨t,r,rfl⟩:=h.fin.cons
 have H:=Lib.hid h; clear h
 have f3:=FL
 have hn:nowAt (t :: r)=t.at':=rfl
 rw [hn]; clear hn
 go_enter Tryz.func50,Tryz.ntmps50
 go_wp2_with (go_at_call 51; refine (dP R t r d _ H.out).mono ?_; rintro e w1 ⟨rfl,hb⟩; unfold eY)
 go_ret
 exact⟨_,rfl,hb.size,Blk.new _ _ _,hb.alloc hb.size _⟩
end Go.Proofs.YtkkeocnnecegbaaGreatDoor
namespace Go.Proofs.YtkkeocnnecegbaaGreatDoor
open Go.RowKit
theorem kW (n:Nat) (w:World):Calls Tryz.prog 177 #[.int .i64 n] w fun e w'=>e=.returned (.int .i64 (aA n))∧w=w':=by
 by_cases h4:n≤4
 ·have k:(n:Int)≤4:=by omega
  go_enter Tryz.func177,Tryz.ntmps177
  go_wp2_with fail
  go_ret
  exact⟨by unfold aA; rw [if_pos h4]; rfl,rfl⟩
 ·have k:¬ (n:Int)≤4:=by omega
  by_cases h8:n≤8
  ·have k2:(n:Int)≤8:=by omega
   go_enter Tryz.func177,Tryz.ntmps177
   go_wp2_with fail
   go_ret
   exact⟨by unfold aA; rw [if_neg h4,if_pos h8]; rfl,rfl⟩
  ·have k2:¬ (n:Int)≤8:=by omega
   go_enter Tryz.func177,Tryz.ntmps177
   go_wp2_with fail
   go_ret
   exact⟨by unfold aA; rw [if_neg h4,if_neg h8]; rfl,rfl⟩
def mh:ByteArray:=⟨#[32,60,32,60,61,32,61,61,32,33,61,32,43,32,45,32,124,32,94,32,42,32,47,32,37,32,38,32,60,60,32,62,62]⟩
def gH:List (List UInt8):=[] :: dV
theorem yG:Lib.countB mh ⟨#[32]⟩=14:=by kernel_rfl
theorem zl:Lib.splitB ⟨#[32]⟩ 0 14 mh=gH.map (fun x=>(⟨x.toArray⟩:ByteArray)):=by kernel_rfl
theorem ug (w:World) (m:Int) (hm:w.cell? ⟨3,0,none⟩=some (.int .i64 m)) :
  Calls Tryz.prog 178 #[.string mh,.string ⟨#[32]⟩] w fun e w'=>e=.returned (.slice (some ⟨w.heap.size,0,none⟩) 15 15)∧Blk w' w.heap.size 9 (fA gH).toArray∧Below w.heap.size w w':=by
 refine (Tryz.strings_Split mh ⟨#[32]⟩ m w (by decide) hm (by decide)).mono ?_
 rintro e w' ⟨rfl,rfl⟩
 rw [yG,zl]
 refine⟨rfl,?_,(Below.refl _ _).alloc (Nat.le_refl _) _⟩
 have:((gH.map (fun x=>(⟨x.toArray⟩:ByteArray))).map Value.string).toArray=(fA gH).toArray:=by simp [fA]
 rw [this]
 exact Blk.new _ _ _
theorem oU {w:World} {b:Nat} (h:Blk w b 9 (fA gH).toArray) (j:Nat) (hj:j<15):w.cell? ⟨b,j,none⟩=some (.string ⟨(gH.getD j []).toArray⟩):=by
 rw [h.cell j]
 have hl:gH.length=15:=rfl
 simp [fA,List.getElem?_map,List.getElem?_eq_getElem (show j<gH.length by omega),List.getD]
theorem xW (R d of:Nat) (ts:List Tok) (w:World) (h:RD w R ts d) :
  Calls Tryz.prog 240 #[.pointer (some ⟨R,0,none⟩),.int .i64 of] w fun e w'=>e=.returned (.int .i64 (bQ of ts))∧Below w.heap.size w w':=by
 obtain ⟨t,r,rfl⟩:=h.fin.cons
 have H:=Lib.hid h
 obtain ⟨m,hm⟩:=h.max
 have HM:=Lib.hid hm; clear hm h
 go_enter Tryz.func240,Tryz.ntmps240
 go_wp2_with fail
 change Calls Tryz.prog 178 #[.string mh,.string ⟨#[32]⟩] _ _
 refine (ug _ m HM.out).mono ?_; rintro e w1 ⟨rfl,hB,hb⟩
 have HB:=Lib.hid hB; clear hB
 have hb1:=Lib.hid hb
 clear hb
 go_wp2_with fail
 go_loopw [9] (fun i wr=>∃ j:Nat,j≤15∧i=.int .i64 j∧Below w1.heap.size w1 wr∧Hid (0<j→markFrom of (t :: r) j (dV.drop (j - 1))=bQ of (t :: r))) (fun i _=>15 - (intOf i).toNat)
 case atStart=>exact⟨0,Nat.zero_le _,rfl,Below.refl _ _,Lib.hid (fun h=>by omega)⟩
 case round =>
  obtain ⟨j,hj,rfl,hb,HF⟩:=hrel
  by_cases hlt:j<15
  ·have hcell:=oU (HB.out.below hb) j hlt
   have hli:(j:Int)<15:=by omega
   by_cases h0:j=0
   ·subst h0
    go_wp2_with fail
    go_roundw
    case rel=>exact⟨1,by omega,by go_num,hb,Lib.hid (fun _=>rfl)⟩
    case measure=>simp [intOf]
   ·have hp:(0:Int)<(j:Int):=by omega
    obtain ⟨q,Q,hd⟩:∃ q Q,dV.drop (j - 1)=q :: Q∧q=gH.getD j []∧Q=dV.drop (j+1 - 1):=by
     have hl:dV.length=14:=rfl
     refine⟨_,_,List.drop_eq_getElem_cons (show j - 1<dV.length by omega),?_,by rw [show j - 1+1=j+1 - 1 by omega]⟩
     obtain ⟨i,rfl⟩:∃ i,j=i+1:=⟨j - 1,by omega⟩
     simp [gH,List.getD,List.getElem?_eq_getElem (show i<dV.length by omega)]
    have HD:=Lib.hid hd
    clear hd
    have hs:=hb.size
    by_cases hl:aA j=of
    ·have k1:((aA j:Int) == (of:Int))=true:=by simp [hl]
     have k2:(aA j == of)=true:=by simp [hl]
     cases hi:isT (gH.getD j []) (t :: r)
     ·have HI:=Lib.hid hi; have HL:=Lib.hid hl; clear hi hl
      go_wp2_with fail
      refine (kW j _).mono ?_; rintro e w2 ⟨rfl,rfl⟩
      go_wp2_with fail
      refine (dH R t r d (gH.getD j []) _ ((H.out.below hb1.out H.out.lt.1).below hb (by have:=H.out.lt.1; have:=hb1.out.size; omega))).mono ?_; rintro e w2 ⟨rfl,hb2⟩; rw [HI.out]
      go_wp2_with fail
      go_roundw
      case rel=>exact⟨j+1,by omega,by go_num,hb.trans (hb2.mono hs),Lib.hid (fun _=>by
       rw [← HF.out (by omega),HD.out.1,← HD.out.2.2,markFrom,if_neg (by rw [HD.out.2.1,HI.out]; simp)])⟩
      case measure=>simp [intOf]; omega
     ·have HI:=Lib.hid hi; have HL:=Lib.hid hl; clear hi hl
      go_wp2_with fail
      refine (kW j _).mono ?_; rintro e w2 ⟨rfl,rfl⟩
      go_wp2_with fail
      refine (dH R t r d (gH.getD j []) _ ((H.out.below hb1.out H.out.lt.1).below hb (by have:=H.out.lt.1; have:=hb1.out.size; omega))).mono ?_; rintro e w2 ⟨rfl,hb2⟩; rw [HI.out]
      go_wp2_with fail
      go_ret
      refine⟨?_,hb1.out.trans ((hb.trans (hb2.mono hs)).mono hb1.out.size)⟩
      rw [← HF.out (by omega),HD.out.1,markFrom,if_pos ⟨HL.out,by rw [HD.out.2.1]; exact HI.out⟩]; rfl
    ·have k1:((aA j:Int) == (of:Int))=false:=by simp; omega
     have k2:(aA j == of)=false:=by simp [hl]
     have HL:=Lib.hid hl; clear hl
     go_wp2_with fail
     refine (kW j _).mono ?_; rintro e w2 ⟨rfl,rfl⟩
     go_wp2_with fail
     go_roundw
     case rel=>exact⟨j+1,by omega,by go_num,hb,Lib.hid (fun _=>by
      rw [← HF.out (by omega),HD.out.1,← HD.out.2.2,markFrom,if_neg (by simp [HL.out])])⟩
     case measure=>simp [intOf]; omega
  ·obtain rfl:j=15:=by omega
   go_wp2_with fail
   go_ret
   refine⟨?_,hb1.out.trans (hb.mono hb1.out.size)⟩
   rw [← HF.out (by omega)]; rfl
end Go.Proofs.YtkkeocnnecegbaaGreatDoor
namespace Go.Proofs.YtkkeocnnecegbaaGreatDoor
open Go.RowKit
def ptrs (ps:List Nat):List Value:=ps.map (fun p=>.pointer (some ⟨p,0,none⟩))
mutual
def dx (w:World) (F:Nat→Prop):Nat→Item→Prop
 | p,.mk k t n a ks=>F p∧∃ v ps,Blk w p 160 #[.int .u8 k,.string ⟨t.toArray⟩,.int .i64 n,.int .i64 a,.slice none 0 0,v]∧(∃ b,w.ownsRow b 93 1 v ks.length (ptrs ps))∧(∀ q,v.ownBlock=some q→F q)∧KidsAt w F ps ks
def KidsAt (w:World) (F:Nat→Prop):List Nat→List Item→Prop
 | [],[]=>True
 | p :: ps,x :: xs=>dx w F p x∧KidsAt w F ps xs
 | _,_=>False
end
theorem dG {w w':World} {base e size n:Nat} {v:Value} {xs:List Value} (h:w.ownsRow base e size v n xs) (hs:∀ q,v.ownBlock=some q→w'.heap[q]? = w.heap[q]?):w'.ownsRow base e size v n xs:=by
 refine⟨h.1,?_⟩
 rcases h.2 with hn | ⟨g,cap,cur,rfl,hb,hgg,rest⟩
 ·exact .inl hn
 ·exact .inr ⟨g,cap,cur,rfl,hb,(hs g rfl).trans hgg,rest⟩
theorem vE {w:World} {base base' e size n:Nat} {v:Value} {xs:List Value} (h:w.ownsRow base e size v n xs) (hb:∀ q,v.ownBlock=some q→base'≤q):w.ownsRow base' e size v n xs:=by
 refine⟨h.1,?_⟩
 rcases h.2 with hn | ⟨g,cap,cur,rfl,_,rest⟩
 ·exact .inl hn
 ·exact .inr ⟨g,cap,cur,rfl,hb g rfl,rest⟩
mutual
theorem dx.keep {w w':World} {F:Nat→Prop} (hs:∀ j,F j→j<w.heap.size→w'.heap[j]? = w.heap[j]?):∀ {x:Item} {p:Nat},dx w F p x→dx w' F p x
 | .mk k t n a ks,p,h=>by
  obtain ⟨hp,v,ps,hb,⟨b,ho⟩,hq,hk⟩:=h
  exact⟨hp,v,ps,(hs p hp hb.lt).trans hb,⟨b,dG ho (fun q e=>hs q (hq q e) (ho.lt q e).2)⟩,hq,hk.keep hs⟩
theorem KidsAt.keep {w w':World} {F:Nat→Prop} (hs:∀ j,F j→j<w.heap.size→w'.heap[j]? = w.heap[j]?):∀ {xs:List Item} {ps:List Nat},KidsAt w F ps xs→KidsAt w' F ps xs
 | [],[],_=>by unfold KidsAt; trivial
 | [],_ :: _,h=>by unfold KidsAt at h; exact h.elim
 | x :: xs,[],h=>by unfold KidsAt at h; exact h.elim
 | x :: xs,p :: ps,h=>by
  unfold KidsAt at h ⊢
  exact⟨h.1.keep hs,h.2.keep hs⟩
end
mutual
theorem dx.mono {w:World} {F G:Nat→Prop} (hs:∀ j,F j→j<w.heap.size→G j):∀ {x:Item} {p:Nat},dx w F p x→dx w G p x
 | .mk k t n a ks,p,h=>by
  obtain ⟨hp,v,ps,hb,⟨b,ho⟩,hq,hk⟩:=h
  exact⟨hs p hp hb.lt,v,ps,hb,⟨b,ho⟩,fun q e=>hs q (hq q e) (ho.lt q e).2,hk.mono hs⟩
theorem KidsAt.mono {w:World} {F G:Nat→Prop} (hs:∀ j,F j→j<w.heap.size→G j):∀ {xs:List Item} {ps:List Nat},KidsAt w F ps xs→KidsAt w G ps xs
 | [],[],_=>by unfold KidsAt; trivial
 | [],_ :: _,h=>by unfold KidsAt at h; exact h.elim
 | x :: xs,[],h=>by unfold KidsAt at h; exact h.elim
 | x :: xs,p :: ps,h=>by
  unfold KidsAt at h ⊢
  exact⟨h.1.mono hs,h.2.mono hs⟩
end
theorem KidsAt.append {w:World} {F:Nat→Prop}:∀ {xs ys:List Item} {ps qs:List Nat},KidsAt w F ps xs→KidsAt w F qs ys→KidsAt w F (ps ++ qs) (xs ++ ys)
 | [],_,[],_,_,h=>h
 | [],_,_ :: _,_,h,_=>by unfold KidsAt at h; exact h.elim
 | x :: xs,_,[],_,h,_=>by unfold KidsAt at h; exact h.elim
 | x :: xs,ys,p :: ps,qs,h,h2=>by
  unfold KidsAt at h
  show KidsAt w F (p :: (ps ++ qs)) (x :: (xs ++ ys))
  unfold KidsAt
  exact⟨h.1,h.2.append h2⟩
theorem KidsAt.len {w:World} {F:Nat→Prop}:∀ {xs:List Item} {ps:List Nat},KidsAt w F ps xs→ps.length=xs.length
 | [],[],_=>rfl
 | [],_ :: _,h=>by unfold KidsAt at h; exact h.elim
 | x :: xs,[],h=>by unfold KidsAt at h; exact h.elim
 | x :: xs,p :: ps,h=>by
  unfold KidsAt at h
  simp [h.2.len]
theorem KidsAt.one {w:World} {F:Nat→Prop} {p:Nat} {x:Item} (h:dx w F p x):KidsAt w F [p] [x]:=by
 unfold KidsAt
 exact⟨h,by unfold KidsAt; trivial⟩
theorem KidsAt.nil {w:World} {F:Nat→Prop}:KidsAt w F [] []:=by unfold KidsAt; trivial
structure aO (w:World) (X L C:Nat) (x:Item):Prop where
 lt:X<L
 le:L≤C
 top:C≤w.heap.size
 ex:∃ k t n a ks v ps,∃ F:Nat→Prop,x=.mk k t n a ks∧Blk w X 160 #[.int .u8 (k:Nat),.string ⟨t.toArray⟩,.int .i64 n,.int .i64 (a:Nat),.slice none 0 0,v]∧w.ownsRow L 93 1 v ks.length (ptrs ps)∧KidsAt w F ps ks∧(∀ j,F j→L≤j∧j<C∧v.ownBlock≠some j)∧(∀ q,v.ownBlock=some q→q<C)
theorem aO.new {w:World} {X L k a:Nat} {t:List UInt8} {n:Int} (h:Blk w X 160 #[.int .u8 k,.string ⟨t.toArray⟩,.int .i64 n,.int .i64 a,.slice none 0 0,.slice none 0 0]) (hl:X<L) (ht:L≤w.heap.size):aO w X L L (.mk k t n a []) :=
 ⟨hl,Nat.le_refl _,ht,k,t,n,a,[],_,[],(fun _=>False),rfl,h,World.ownsRow_nil _ _ _ _,.nil,fun j h=>h.elim,fun q e=>by simp [Value.ownBlock] at e⟩
theorem aO.keep {w w':World} {X L C B R:Nat} {x:Item} (h:aO w X L C x) (hk:au B R w w') (hC:C≤B) (hR:R<X):aO w' X L C x:=by
 obtain ⟨h1,h2,h3,k,t,n,a,ks,v,ps,F,rfl,h4,h5,h6,h7,h8⟩:=h
 refine⟨h1,h2,Nat.le_trans h3 hk.size,k,t,n,a,ks,v,ps,F,rfl,(hk.block X (by omega) (by omega)).trans h4,dG h5 (fun q e=>hk.block q (by have:=h8 q e; omega) (by have:=(h5.lt q e).1; omega)),h6.keep (fun j hj _=>hk.block j (by have:=h7 j hj; omega) (by have:=h7 j hj; omega)),h7,h8⟩
theorem aO.grow {w:World} {X L C C':Nat} {x:Item} (h:aO w X L C x) (hC:C≤C') (ht:C'≤w.heap.size):aO w X L C' x:=by
 obtain ⟨h1,h2,h3,k,t,n,a,ks,v,ps,F,rfl,h4,h5,h6,h7,h8⟩:=h
 exact⟨h1,by omega,ht,k,t,n,a,ks,v,ps,F,rfl,h4,h5,h6,fun j hj=>by obtain ⟨a,b,c⟩:=h7 j hj; exact⟨a,by omega,c⟩,fun q e=>by have:=h8 q e; omega⟩
theorem aO.close {w:World} {X L C:Nat} {x:Item} (h:aO w X L C x):dx w (fun j=>X≤j) X x:=by
 obtain ⟨h1,h2,h3,k,t,n,a,ks,v,ps,F,rfl,h4,h5,h6,h7,h8⟩:=h
 exact⟨Nat.le_refl _,v,ps,h4,⟨L,h5⟩,fun q e=>by have:=(h5.lt q e).1; omega,h6.mono (fun j hj _=>by have:=h7 j hj; omega)⟩
theorem aO.blk {w:World} {X L C k a:Nat} {t:List UInt8} {n:Int} {ks:List Item} (h:aO w X L C (.mk k t n a ks)):∃ v,Blk w X 160 #[.int .u8 k,.string ⟨t.toArray⟩,.int .i64 n,.int .i64 a,.slice none 0 0,v]:=by
 obtain ⟨h1,h2,h3,k,t,n,a,ks,v,ps,F,e,h4,_⟩:=h
 injection e with e1 e2 e3 e4 e5
 subst e1 e2 e3 e4
 exact⟨v,h4⟩
theorem aO.set {w:World} {X L C i:Nat} {u:Value} {k a k' a':Nat} {t t':List UInt8} {n n':Int} {ks:List Item} (h:aO w X L C (.mk k t n a ks))
  (he:∀ v,(#[.int .u8 k,.string ⟨t.toArray⟩,.int .i64 n,.int .i64 a,.slice none 0 0,v]:Array Value).setIfInBounds i u=#[.int .u8 k',.string ⟨t'.toArray⟩,.int .i64 n',.int .i64 a',.slice none 0 0,v]) :
  aO (w.setCell ⟨X,i,none⟩ u) X L C (.mk k' t' n' a' ks):=by
 obtain ⟨h1,h2,h3,k,t,n,a,ks,v,ps,F,e,h4,h5,h6,h7,h8⟩:=h
 injection e with e1 e2 e3 e4 e5
 subst e1 e2 e3 e4 e5
 have far:∀ j,j≠X→(w.setCell ⟨X,i,none⟩ u).heap[j]? = w.heap[j]?:=fun j hj=>Below.heap_setCell _ _ _ _ hj
 refine⟨h1,h2,by simpa [World.setCell] using h3,k',t',n',a',_,v,ps,F,rfl,?_,dG h5 (fun q e=>far q (by have:=(h5.lt q e).1; omega)),h6.keep (fun j hj _=>far j (by have:=h7 j hj; omega)),h7,h8⟩
 have:=h4.put i u
 rw [he v] at this
 exact this
theorem aO.text {w:World} {X L C k a:Nat} {t:List UInt8} {n:Int} {ks:List Item} (h:aO w X L C (.mk k t n a ks)) (t':List UInt8):aO (w.setCell ⟨X,1,none⟩ (.string ⟨t'.toArray⟩)) X L C (.mk k t' n a ks):=h.set (fun _v=>rfl)
theorem aO.num {w:World} {X L C k a:Nat} {t:List UInt8} {n:Int} {ks:List Item} (h:aO w X L C (.mk k t n a ks)) (n':Int):aO (w.setCell ⟨X,2,none⟩ (.int .i64 n')) X L C (.mk k t n' a ks):=h.set (fun _v=>rfl)
theorem aO.kind {w:World} {X L C k a:Nat} {t:List UInt8} {n:Int} {ks:List Item} (h:aO w X L C (.mk k t n a ks)) (k':Nat):aO (w.setCell ⟨X,0,none⟩ (.int .u8 k')) X L C (.mk k' t n a ks):=h.set (fun _v=>rfl)
theorem Gm {W:World} {X:Nat} {c0 c1 c2 c3 c4 v:Value} (h:Blk W X 160 #[c0,c1,c2,c3,c4,v]) (u:Value):Blk (W.setCell ⟨X,5,none⟩ u) X 160 #[c0,c1,c2,c3,c4,u]:=h.put 5 u
theorem JK:(Tryz.prog.info? 93).map (fun i=>(i.zero,i.size,i.bytes))=some (some (.pointer none),1,8):=by kernel_rfl
theorem Gb (ps:List Nat):∀ u∈ptrs ps,u.oneCell'=true:=by
 intro u hu
 simp only [ptrs,List.mem_map] at hu
 obtain ⟨p,_,rfl⟩:=hu
 rfl
theorem F6 {w:World} {K:Nat} {cs:List Value} (h:Blk w K 93 cs.toArray):∀ j u,cs[j]? = some u→w.cell? ((⟨K,0,none⟩:Addr).add j)=some u:=by
 intro j u hu
 have hadd:(⟨K,0,none⟩:Addr).add j=⟨K,j,none⟩:=by unfold Addr.add; split <;> simp_all
 rw [hadd,h.cell j]; simpa using hu
theorem Ac (X L K m n:Nat) (c0 c1 c2 c3 c4 v:Value) (ps qs:List Nat) (w:World) (hx:Blk w X 160 #[c0,c1,c2,c3,c4,v]) (ho:w.ownsRow L 93 1 v n (ptrs ps)) (hXL:v.ownBlock≠some X) (hL:L≤w.heap.size) (hK:Blk w K 93 (ptrs qs).toArray) (hm:qs.length=m) (hm0:0<m) (hn:n+m≤1000000) :
  Calls Tryz.prog 53 #[.pointer (some ⟨X,0,none⟩),.slice (some ⟨K,0,none⟩) m m] w fun e w'=>e=.returned (.pointer (some ⟨X,0,none⟩))∧∃ v',Blk w' X 160 #[c0,c1,c2,c3,c4,v']∧w'.ownsRow L 93 1 v' (n+m) (ptrs (ps ++ qs))∧(v'.ownBlock=v.ownBlock∨v'.ownBlock=some w.heap.size)∧w.os=w'.os∧w.tape=w'.tape∧w.output=w'.output∧w.heap.size≤w'.heap.size∧(∀ j,j<w.heap.size→j≠X→v.ownBlock≠some j→w'.heap[j]? = w.heap[j]?):=by
 obtain ⟨i0,hi0,hz0,hz1,hz2⟩:=info_parts JK
 have x5:w.cell? ⟨X,5,none⟩=some v:=hx.cell 5
 have xf:=hx.free 5
 have hXl:=hx.lt
 have HX:=Lib.hid hx; have HO:=Lib.hid ho; have HK:=Lib.hid hK; have HV:=Lib.hid hXL
 clear hx ho hK hXL
 have HM:=Lib.hid hm; clear hm
 go_enter Tryz.func53,Tryz.ntmps53
 go_wp2_with (at_builtin; refine wpList_append_lies _ rfl _ _ 158 rfl L 93 i0 (.pointer none) 1 8 Tryz.underlying158 hi0 hz0 hz1 hz2 rfl (by decide) v n (ptrs ps) rfl HO.out ⟨K,0,none⟩ m m (ptrs qs) rfl ?_ (F6 HK.out) (Gb qs) hm0 (by unfold maxLen; omega) (by omega) hL w.heap.size rfl ?_)
 ·simp [ptrs,HM.out]
 intro g cap w1 hown hgrow hat hlt
 have hX1:Blk w1 X 160 #[c0,c1,c2,c3,c4,v]:=(hgrow.block X hXl (fun e=>HV.out e.symm)).trans HX.out
 have HX1:=Lib.hid hX1
 have y5:w1.cell? ⟨X,5,none⟩=some v:=hX1.cell 5
 have yf:=hX1.free 5
 have HG:=Lib.hid hgrow; have HA:=Lib.hid hat; have HO1:=Lib.hid hown
 clear hX1 hgrow hat hown x5 xf
 go_wp2_with fail
 go_ret
 refine⟨rfl,.slice (some ⟨g,0,none⟩) (n+m) cap,?_,?_,?_,HG.out.os.symm,HG.out.tape.symm,HG.out.output.symm,by have:=HG.out.size; simpa [World.setCell] using this,?_⟩
 ·exact Gm HX1.out _
 ·rw [show ptrs (ps ++ qs)=ptrs ps ++ ptrs qs by simp [ptrs]]
  refine dG HO1.out (fun q e=>Below.heap_setCell _ _ _ _ ?_)
  intro hq
  have hgX:g=X:=(Option.some.inj (show some g=some q from e)).trans hq
  rcases HA.out with h | h
  ·exact HV.out (by rw [h,hgX])
  ·omega
 ·rcases HA.out with h | h
  ·exact Or.inl h.symm
  ·exact Or.inr (by rw [h]; rfl)
 ·intro j hj hx hv
  rw [Below.heap_setCell _ _ _ _ hx]
  exact HG.out.block j hj (fun e=>hv e.symm)
theorem fG (X L C K m k a:Nat) (t:List UInt8) (n:Int) (ks xs:List Item) (qs:List Nat) (w:World) (h:aO w X L C (.mk k t n a ks)) (hK:Blk w K 93 (ptrs qs).toArray) (hk:KidsAt w (fun j=>C≤j) qs xs) (hm:qs.length=m) (hm0:0<m) (hn:ks.length+m≤1000000) :
  Calls Tryz.prog 53 #[.pointer (some ⟨X,0,none⟩),.slice (some ⟨K,0,none⟩) m m] w fun e w'=>e=.returned (.pointer (some ⟨X,0,none⟩))∧aO w' X L w'.heap.size (.mk k t n a (ks ++ xs))∧au L X w w':=by
 obtain ⟨h1,h2,h3,k,t,n,a,ks,v,ps,F,e,h4,h5,h6,h7,h8⟩:=h
 injection e with e1 e2 e3 e4 e5
 subst e1 e2 e3 e4 e5
 refine (Ac X L K m _ _ _ _ _ _ v ps qs w h4 h5 (fun e=>by have:=(h5.lt X e).1; omega) (by omega) hK hm hm0 hn).mono ?_
 rintro e w' ⟨rfl,v',g1,g2,g3,g4,g5,g6,g7,g8⟩
 have hxs:=hk.len
 refine⟨rfl,⟨h1,by omega,Nat.le_refl _,k,t,n,a,_,v',ps ++ qs,(fun j=>F j∨(C≤j∧j<w.heap.size)),rfl,g1,by rw [List.length_append,← hxs,hm]; exact g2,?_,?_,fun q e=>(g2.lt q e).2⟩,⟨g4.symm,g5.symm,g6.symm,g7,fun j hj hx=>g8 j (by omega) hx (fun e=>by have:=(h5.lt j e).1; omega)⟩⟩
 ·refine KidsAt.append ((h6.keep (fun j hj hl=>g8 j hl (by have:=h7 j hj; omega) (h7 j hj).2.2)).mono (fun j hj _=>Or.inl hj)) ?_
  have hk':KidsAt w (fun j=>C≤j∧j<w.heap.size) qs xs:=hk.mono (fun j hj hl=>⟨hj,hl⟩)
  exact (hk'.keep (fun j hj hl=>g8 j hl (by omega) (fun e=>by have:=h8 j e; omega))).mono (fun j hj _=>Or.inr hj)
 ·intro j hj
  have hrow:L≤j∧j<w.heap.size∧v.ownBlock≠some j:=by
   rcases hj with hj | hj
   ·obtain ⟨a,b,c⟩:=h7 j hj; exact⟨a,by omega,c⟩
   ·exact⟨by omega,hj.2,fun e=>by have:=h8 j e; omega⟩
  refine⟨hrow.1,by omega,fun e=>?_⟩
  rcases g3 with g3 | g3
  ·exact hrow.2.2 (by rw [← g3]; exact e)
  ·rw [e] at g3; injection g3 with g3; omega
end Go.Proofs.YtkkeocnnecegbaaGreatDoor
