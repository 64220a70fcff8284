/- Joint text: TC, TD, TE, Takes. By an AI agent. -/
import Derived.Test.YtkkeocnnecegbaaGreatDoorQ20
import Derived.Deep.DeepCutAuto
import Derived.Deep.RegionHeld
set_option linter.all false
set_option maxRecDepth 100000
set_option maxHeartbeats 64000000
namespace Go.Proofs.YtkkeocnnecegbaaGreatDoor
open Go.RowKit
theorem mr (p:Value) (i code:Int) (w:World) :
  Calls Tryz.prog 161 #[p,.int .i64 i,.int .i64 code,.bool false] w fun e w'=>e=.returned .nilIface∧w'=w:=by
 go_enter Tryz.func161,Tryz.ntmps161
 go_wp2_with fail
 go_ret
 exact⟨rfl,rfl⟩
theorem kT (R n c i:Nat) (code:Int) (A:Option Addr) (l:List PV) (g:PV) (w:World) (hr:w.cell? ⟨R,0,none⟩=some (.slice A n c)) (hl:bg w A l) (hn:n=l.length) (hg:l[i]? = some g) :
  Calls Tryz.prog 161 #[.pointer (some ⟨R,0,none⟩),.int .i64 i,.int .i64 code,.bool true] w fun e w'=>e=.returned (.iface 121 (.pointer (some ⟨w.heap.size,0,none⟩)))∧w'=w.alloc (.cells #[.int .i64 g.1.at',.iface 31 (.int .i64 code)] 126):=by
 have hi:i<n:=by rw [hn]; exact (List.getElem?_eq_some_iff.1 hg).1
 obtain ⟨b,o,rfl,x0,x1,x2,x3,x4,x5⟩:=hl.at hg
 have hii:(i:Int)<(n:Int):=by omega
 have lb:=aa x0
 clear hl x5 hg hn
 go_enter Tryz.func161,Tryz.ntmps161
 go_wp2_with fail
 go_ret
 exact⟨rfl,rfl⟩
def iO (e:Value):Prop:=e=.nilIface∨∃ p,e=.iface 121 (.pointer p)
def bO:Value→Value→Value
 | .nilIface,e=>e
 | e,_=>e
theorem ek (K c:Nat) (e1 e2:Value) (w:World) (h1:iO e1) (h2:iO e2) (k1:w.cell? ⟨K,0,none⟩=some e1) (k2:w.cell? ⟨K,1,none⟩=some e2) :
  Calls Tryz.prog 160 #[.slice (some ⟨K,0,none⟩) 2 c] w fun e w'=>e=.returned (bO e1 e2)∧w'=w:=by
 have lK:=aa k1
 go_enter Tryz.func160,Tryz.ntmps160
 rcases h1 with rfl | ⟨p,rfl⟩
 ·rcases h2 with rfl | ⟨q,rfl⟩
  ·go_wp2_with fail
   refine wp_loop_rounds 3 ?_
   rw [rounds_succ]
   go_wp2_with fail
   rw [rounds_succ]
   go_wp2_with fail
   rw [rounds_succ]
   go_wp2_with fail
   go_ret
   exact⟨rfl,rfl⟩
  ·go_wp2_with fail
   refine wp_loop_rounds 2 ?_
   rw [rounds_succ]
   go_wp2_with fail
   rw [rounds_succ]
   go_wp2_with fail
   go_ret
   exact⟨rfl,rfl⟩
 ·go_wp2_with fail
  refine wp_loop_rounds 1 ?_
  rw [rounds_succ]
  go_wp2_with fail
  go_ret
  exact⟨rfl,rfl⟩
variable {w:World} {R OB B n c:Nat} {A:Option Addr} {mn:Int} {s:TS} {va vf vs:Value}
theorem StT.KN (h:StT w R OB B n c A mn s va vf vs):∃ A' c',va=.slice A' s.ak.length c'∧iD w A' 2 (s.ak.map iC):=by
 have ho:=h.ak
 obtain ⟨A',c',rfl⟩:=bJ ho
 have hm:(s.ak.map iC).length=s.ak.length:=List.length_map ..
 rw [← hm] at ho
 exact⟨A',c',rfl,iD.l6 (fun a ha=>by obtain ⟨b,_,rfl⟩:=List.mem_map.1 ha; rfl) ho⟩
theorem StT.fnR (h:StT w R OB B n c A mn s va vf vs):∃ A' c',vf=.slice A' s.fns.length c'∧iD w A' 4 (s.fns.map fnV):=by
 have ho:=h.fns
 obtain ⟨A',c',rfl⟩:=bJ ho
 have hm:(s.fns.map fnV).length=s.fns.length:=List.length_map ..
 rw [← hm] at ho
 exact⟨A',c',rfl,iD.l6 (fun a ha=>by obtain ⟨b,_,rfl⟩:=List.mem_map.1 ha; rfl) ho⟩
theorem StT.Kq (h:StT w R OB B n c A mn s va vf vs):∃ A' c',vs=.slice A' s.seen.length c'∧iD w A' 2 (s.seen.map fe):=by
 have ho:=h.seen
 obtain ⟨A',c',rfl⟩:=bJ ho
 have hm:(s.seen.map fe).length=s.seen.length:=List.length_map ..
 rw [← hm] at ho
 exact⟨A',c',rfl,iD.l6 (fun a ha=>by obtain ⟨b,_,rfl⟩:=List.mem_map.1 ha; rfl) ho⟩
theorem nW (h:StT w R OB B n c A mn s va vf vs) (x:ByteArray) (hl:s.ak.length≤1000000) :
  Calls Tryz.prog 159 #[.pointer (some ⟨R,0,none⟩),.string x] w fun e w'=>e=.returned (.int .i64 (s.array x.data.toList))∧Below w.heap.size w w':=by
 obtain ⟨A',c',rfl,hr⟩:=h.KN
 have k1:w.cell? ⟨R,1,none⟩=some (.slice A' s.ak.length c'):=h.rd.cell 1
 have HC:=Lib.hid (Ee A' c' s.ak x w hr hl)
 unfold TS.array
 generalize dm _ x.data.toList s.ak=r at *
 generalize s.ak.length=m at *
 clear hr h
 go_enter Tryz.func159,Tryz.ntmps159
 go_wp2_with fail
 refine HC.out.mono ?_
 rintro e w1 ⟨rfl,hb1⟩
 have HB1:=Lib.hid hb1
 clear hb1
 go_wp2_with fail
 go_ret
 exact⟨rfl,HB1.out⟩
theorem kY (h:StT w R OB B n c A mn s va vf vs) (x:ByteArray) (hl:s.fns.length≤1000000) :
  Calls Tryz.prog 114 #[.pointer (some ⟨R,0,none⟩),.string x] w fun e w'=>e=.returned (.int .i64 (s.function x.data.toList))∧Below w.heap.size w w':=by
 obtain ⟨A',c',rfl,hr⟩:=h.fnR
 have k1:w.cell? ⟨R,2,none⟩=some (.slice A' s.fns.length c'):=h.rd.cell 2
 have HC:=Lib.hid (Ht A' c' s.fns x w hr hl)
 unfold TS.function
 generalize dm _ x.data.toList s.fns=r at *
 generalize s.fns.length=m at *
 clear hr h
 go_enter Tryz.func114,Tryz.ntmps114
 go_wp2_with fail
 refine HC.out.mono ?_
 rintro e w1 ⟨rfl,hb1⟩
 have HB1:=Lib.hid hb1
 clear hb1
 go_wp2_with fail
 go_ret
 exact⟨rfl,HB1.out⟩
theorem H9 (s:TS) (x:List UInt8):(dm (·.1) x s.seen = -1∧s.find x = -1)∨∃ (i:Nat) (a:List UInt8×Nat),dm (·.1) x s.seen=(i:Int)∧s.seen[i]? = some a∧s.find x=(a.2:Nat):=by
 unfold TS.find dm
 cases hf:s.seen.findIdx? (fun a=>a.1 == x) with
 | none=>exact Or.inl ⟨rfl,rfl⟩
 | some i =>
  obtain ⟨hi,_⟩:=List.findIdx?_eq_some_iff_getElem.1 hf
  refine Or.inr ⟨i,s.seen[i],rfl,List.getElem?_eq_getElem hi,?_⟩
  simp [List.getElem?_eq_getElem hi]
theorem jN (h:StT w R OB B n c A mn s va vf vs) (x:ByteArray) (hl:s.seen.length≤1000000) :
  Calls Tryz.prog 201 #[.pointer (some ⟨R,0,none⟩),.string x] w fun e w'=>e=.returned (.int .i64 (s.find x.data.toList))∧Below w.heap.size w w':=by
 obtain ⟨A',c',rfl,hr⟩:=h.Kq
 have HR:=Lib.hid hr
 have HK:Hid (Blk w R 119 _):=Lib.hid h.rd
 have k1:w.cell? ⟨R,5,none⟩=some (.slice A' s.seen.length c'):=h.rd.cell 5
 have HC:=Lib.hid (BQ A' c' s.seen x w hr hl)
 rcases H9 s x.data.toList with ⟨hi,hf⟩ | ⟨i,a,hi,ha,hf⟩
 ·rw [hi] at HC
  rw [hf]
  generalize s.seen.length=m at *
  clear hr h hi hf HR
  go_enter Tryz.func201,Tryz.ntmps201
  go_wp2_with fail
  refine HC.out.mono ?_
  rintro e w1 ⟨rfl,hb1⟩
  have HB1:=Lib.hid hb1
  clear hb1
  go_wp2_with fail
  go_ret
  exact⟨rfl,HB1.out⟩
 ·rw [hi] at HC
  rw [hf]
  have him:=(List.getElem?_eq_some_iff.1 ha).1
  have HA:=Lib.hid ha
  clear hr h hi hf ha
  generalize s.seen.length=m at *
  have hii:(i:Int)<(m:Int):=by omega
  go_enter Tryz.func201,Tryz.ntmps201
  go_wp2_with fail
  refine HC.out.mono ?_
  rintro e w1 ⟨rfl,hb1⟩
  have HB1:=Lib.hid hb1
  have k1':w1.cell? ⟨R,5,none⟩=some (.slice A' m c'):=(HK.out.below hb1).cell 5
  obtain ⟨b,o,rfl,x0,xk⟩:=(HR.out.below hb1).at (nM (f:=fe) HA.out)
  have x1:=xk 0 _ rfl
  have lb:=aa x0
  clear hb1 xk k1
  go_wp2_with fail
  go_ret
  exact⟨rfl,HB1.out⟩
end Go.Proofs.YtkkeocnnecegbaaGreatDoor
namespace Go.Proofs.YtkkeocnnecegbaaGreatDoor
open Go.RowKit
section
variable {w:World} {R OB B n c:Nat} {A:Option Addr} {mn:Int} {s:TS} {va vf vs:Value}
theorem fQ {w:World} {base e sz n:Nat} {v:Value} {xs:List Value} (h:w.ownsRow base e sz v n xs) {g:Nat} (hg:g<base):∀ q,v.ownBlock=some q→q≠g:=fun q e=>by have:=(h.lt q e).1; omega
theorem bK {w:World} {base e sz n:Nat} {v:Value} {xs:List Value} (h:w.ownsRow base e sz v n xs) {g:Nat} (hg:g<base) (i:Nat) (u:Value):(w.setCell ⟨g,i,none⟩ u).ownsRow base e sz v n xs :=
 dG h (fun q e=>Below.heap_setCell _ _ _ _ (fQ h hg q e))
theorem EO (l:List Int) (i:Nat) (v:Int):((l.map (Value.int .i64)).toArray).setIfInBounds i (.int .i64 v)=((l.set i v).map (Value.int .i64)).toArray:=by
 simp [List.map_set]
theorem FrY.tY {a b:World} (h:FrY R OB B a b) (i:Nat) (u:Value):FrY R OB B a (b.setCell ⟨R,i,none⟩ u) :=
 h.trans ⟨rfl,rfl,rfl,by simp [World.setCell],fun g h1 h2 h3 h4=>Below.heap_setCell _ _ _ _ h3,fun g t cs h1 h2 h3 h4=>h1.far h2 i u⟩
theorem FrY.xQ {a b:World} (h:FrY R OB B a b) (i:Nat) (u:Value):FrY R OB B a (b.setCell ⟨OB,i,none⟩ u) :=
 h.trans ⟨rfl,rfl,rfl,by simp [World.setCell],fun g h1 h2 h3 h4=>Below.heap_setCell _ _ _ _ h4,fun g t cs h1 h2 h3 h4=>h1.far h3 i u⟩
theorem StT.put (h:StT w R OB B n c A mn s va vf vs) (i:Nat) (v:Int):StT (w.setCell ⟨OB,i,none⟩ (.int .i64 v)) R OB B n c A mn (s.put i v) va vf vs :=
 ⟨h.rd.far h.lt.2.2 i _,by have:=h.obl.put i (.int .i64 v); rw [EO] at this; exact this,by show (s.of.set i v).length=n; rw [List.length_set]; exact h.ofn,bK h.ak h.lt.2.1 i _,bK h.fns h.lt.2.1 i _,bK h.seen h.lt.2.1 i _,h.lt,by have:=h.top; simpa [World.setCell] using this⟩
theorem StT.vars (h:StT w R OB B n c A mn s va vf vs) (v:Nat):StT (w.setCell ⟨R,6,none⟩ (.int .i64 v)) R OB B n c A mn { s with vars:=v } va vf vs :=
 ⟨h.rd.put 6 (.int .i64 v),h.obl.far (Ne.symm h.lt.2.2) 6 _,h.ofn,bK h.ak h.lt.1 6 _,bK h.fns h.lt.1 6 _,bK h.seen h.lt.1 6 _,h.lt,by have:=h.top; simpa [World.setCell] using this⟩
theorem StT.cut {A5:Option Addr} {n5 c5:Nat} (h:StT w R OB B n c A mn s va vf (.slice A5 n5 c5)) (m:Nat) (hm:m≤s.seen.length):StT (w.setCell ⟨R,5,none⟩ (.slice A5 m c5)) R OB B n c A mn { s with seen:=s.seen.take m } va vf (.slice A5 m c5):=by
 have ho:=h.seen
 obtain ⟨A',c',hv⟩:=bJ ho
 injection hv with q1 q2 q3
 subst q2
 have h2:=Hd ho hm
 refine⟨h.rd.put 5 _,h.obl.far (Ne.symm h.lt.2.2) 5 _,h.ofn,bK h.ak h.lt.1 5 _,bK h.fns h.lt.1 5 _,?_,h.lt,by have:=h.top; simpa [World.setCell] using this⟩
 have hl:(s.seen.take m).length=m:=by rw [List.length_take]; omega
 have hx:bV ((s.seen.take m).map fe)=(bV (s.seen.map fe)).take (m*2):=by
  rw [List.map_take]
  exact (uD (sz:=2) _ (fun a ha=>by obtain ⟨b,_,rfl⟩:=List.mem_map.1 ha; rfl) m)
 show (w.setCell ⟨R,5,none⟩ _).ownsRow B 278 2 (.slice A5 m c5) (s.seen.take m).length (bV ((s.seen.take m).map fe))
 rw [hl,hx]
 exact bK h2 h.lt.1 5 _
theorem StT.DN {w1:World} {v':Value} (h:StT w R OB B n c A mn s va vf vs) (a:(List UInt8×Int)) (hg:w.grownBy w1 va.ownBlock) (ho:w1.ownsRow B 113 2 v' (s.ak.length+1) (bV (s.ak.map iC) ++ (.string ⟨(iC a).1.toArray⟩ :: (iC a).2))) :
  StT (w1.setCell ⟨R,1,none⟩ v') R OB B n c A mn { s with ak:=s.ak ++ [a] } v' vf vs∧FrY R OB B w (w1.setCell ⟨R,1,none⟩ v'):=by
 have hR:w1.heap[R]? = w.heap[R]?:=hg.block R h.rd.lt (fun e=>fQ h.ak h.lt.1 R e.symm rfl)
 have hO:w1.heap[OB]? = w.heap[OB]?:=hg.block OB h.obl.lt (fun e=>fQ h.ak h.lt.2.1 OB e.symm rfl)
 have e:bV ((s.ak ++ [a]).map iC)=bV (s.ak.map iC) ++ (.string ⟨(iC a).1.toArray⟩ :: (iC a).2):=by rw [List.map_append,List.map_singleton,pJ]
 have el:(s.ak ++ [a]).length=s.ak.length+1:=by simp
 refine⟨⟨(show Blk w1 R 119 _ from hR.trans h.rd).put 1 _,(show Blk w1 OB 3 _ from hO.trans h.obl).far (Ne.symm h.lt.2.2) 1 _,h.ofn,?_,?_,?_,h.lt,by have:=h.top; have:=hg.size; simp [World.setCell]; omega⟩,?_⟩
 ·show (w1.setCell ⟨R,1,none⟩ v').ownsRow B 113 2 v' (s.ak ++ [a]).length (bV ((s.ak ++ [a]).map iC))
  rw [e,el]; exact bK ho h.lt.1 1 _
 ·exact bK (dG h.fns (fun q e=>hg.block q (h.fns.lt q e).2 (fun e2=>by rcases own_ne h.fns h.ak (by decide) with h5 | h5; rw [h5] at e; cases e; exact h5 (e.trans e2)))) h.lt.1 1 _
 ·exact bK (dG h.seen (fun q e=>hg.block q (h.seen.lt q e).2 (fun e2=>by rcases own_ne h.seen h.ak (by decide) with h5 | h5; rw [h5] at e; cases e; exact h5 (e.trans e2)))) h.lt.1 1 _
 ·refine⟨hg.os,hg.tape,hg.output,by have:=hg.size; simpa [World.setCell] using this,fun g h1 h2 h3 h4=>?_,fun g t cs h1 h2 h3 h4=>?_⟩
  ·rw [Below.heap_setCell _ _ _ _ h3]
   exact hg.block g h1 (fun e=>fQ h.ak h2 g e.symm rfl)
  ·refine Blk.far (show Blk w1 g t cs from (hg.block g h1.lt (fun e=>?_)).trans h1) h2 1 _
   obtain ⟨cs',hcs⟩:=jy h.ak e.symm
   rw [show w.heap[g]? = _ from h1] at hcs
   injection hcs with hcs
   injection hcs with _ hcs
   exact h4.1 hcs
theorem StT.FW {w1:World} {v':Value} (h:StT w R OB B n c A mn s va vf vs) (a:FnS) (hg:w.grownBy w1 vf.ownBlock) (ho:w1.ownsRow B 72 4 v' (s.fns.length+1) (bV (s.fns.map fnV) ++ (.string ⟨(fnV a).1.toArray⟩ :: (fnV a).2))) :
  StT (w1.setCell ⟨R,2,none⟩ v') R OB B n c A mn { s with fns:=s.fns ++ [a] } va v' vs∧FrY R OB B w (w1.setCell ⟨R,2,none⟩ v'):=by
 have hR:w1.heap[R]? = w.heap[R]?:=hg.block R h.rd.lt (fun e=>fQ h.fns h.lt.1 R e.symm rfl)
 have hO:w1.heap[OB]? = w.heap[OB]?:=hg.block OB h.obl.lt (fun e=>fQ h.fns h.lt.2.1 OB e.symm rfl)
 have e:bV ((s.fns ++ [a]).map fnV)=bV (s.fns.map fnV) ++ (.string ⟨(fnV a).1.toArray⟩ :: (fnV a).2):=by rw [List.map_append,List.map_singleton,pJ]
 have el:(s.fns ++ [a]).length=s.fns.length+1:=by simp
 refine⟨⟨(show Blk w1 R 119 _ from hR.trans h.rd).put 2 _,(show Blk w1 OB 3 _ from hO.trans h.obl).far (Ne.symm h.lt.2.2) 2 _,h.ofn,?_,?_,?_,h.lt,by have:=h.top; have:=hg.size; simp [World.setCell]; omega⟩,?_⟩
 ·exact bK (dG h.ak (fun q e=>hg.block q (h.ak.lt q e).2 (fun e2=>by rcases own_ne h.ak h.fns (by decide) with h5 | h5; rw [h5] at e; cases e; exact h5 (e.trans e2)))) h.lt.1 2 _
 ·show (w1.setCell ⟨R,2,none⟩ v').ownsRow B 72 4 v' (s.fns ++ [a]).length (bV ((s.fns ++ [a]).map fnV))
  rw [e,el]; exact bK ho h.lt.1 2 _
 ·exact bK (dG h.seen (fun q e=>hg.block q (h.seen.lt q e).2 (fun e2=>by rcases own_ne h.seen h.fns (by decide) with h5 | h5; rw [h5] at e; cases e; exact h5 (e.trans e2)))) h.lt.1 2 _
 ·refine⟨hg.os,hg.tape,hg.output,by have:=hg.size; simpa [World.setCell] using this,fun g h1 h2 h3 h4=>?_,fun g t cs h1 h2 h3 h4=>?_⟩
  ·rw [Below.heap_setCell _ _ _ _ h3]
   exact hg.block g h1 (fun e=>fQ h.fns h2 g e.symm rfl)
  ·refine Blk.far (show Blk w1 g t cs from (hg.block g h1.lt (fun e=>?_)).trans h1) h2 2 _
   obtain ⟨cs',hcs⟩:=jy h.fns e.symm
   rw [show w.heap[g]? = _ from h1] at hcs
   injection hcs with hcs
   injection hcs with _ hcs
   exact h4.2.1 hcs
theorem StT.vo {w1:World} {v':Value} (h:StT w R OB B n c A mn s va vf vs) (a:(List UInt8×Nat)) (hg:w.grownBy w1 vs.ownBlock) (ho:w1.ownsRow B 278 2 v' (s.seen.length+1) (bV (s.seen.map fe) ++ (.string ⟨(fe a).1.toArray⟩ :: (fe a).2))) :
  StT (w1.setCell ⟨R,5,none⟩ v') R OB B n c A mn { s with seen:=s.seen ++ [a] } va vf v'∧FrY R OB B w (w1.setCell ⟨R,5,none⟩ v'):=by
 have hR:w1.heap[R]? = w.heap[R]?:=hg.block R h.rd.lt (fun e=>fQ h.seen h.lt.1 R e.symm rfl)
 have hO:w1.heap[OB]? = w.heap[OB]?:=hg.block OB h.obl.lt (fun e=>fQ h.seen h.lt.2.1 OB e.symm rfl)
 have e:bV ((s.seen ++ [a]).map fe)=bV (s.seen.map fe) ++ (.string ⟨(fe a).1.toArray⟩ :: (fe a).2):=by rw [List.map_append,List.map_singleton,pJ]
 have el:(s.seen ++ [a]).length=s.seen.length+1:=by simp
 refine⟨⟨(show Blk w1 R 119 _ from hR.trans h.rd).put 5 _,(show Blk w1 OB 3 _ from hO.trans h.obl).far (Ne.symm h.lt.2.2) 5 _,h.ofn,?_,?_,?_,h.lt,by have:=h.top; have:=hg.size; simp [World.setCell]; omega⟩,?_⟩
 ·exact bK (dG h.ak (fun q e=>hg.block q (h.ak.lt q e).2 (fun e2=>by rcases own_ne h.ak h.seen (by decide) with h5 | h5; rw [h5] at e; cases e; exact h5 (e.trans e2)))) h.lt.1 5 _
 ·exact bK (dG h.fns (fun q e=>hg.block q (h.fns.lt q e).2 (fun e2=>by rcases own_ne h.fns h.seen (by decide) with h5 | h5; rw [h5] at e; cases e; exact h5 (e.trans e2)))) h.lt.1 5 _
 ·show (w1.setCell ⟨R,5,none⟩ v').ownsRow B 278 2 v' (s.seen ++ [a]).length (bV ((s.seen ++ [a]).map fe))
  rw [e,el]; exact bK ho h.lt.1 5 _
 ·refine⟨hg.os,hg.tape,hg.output,by have:=hg.size; simpa [World.setCell] using this,fun g h1 h2 h3 h4=>?_,fun g t cs h1 h2 h3 h4=>?_⟩
  ·rw [Below.heap_setCell _ _ _ _ h3]
   exact hg.block g h1 (fun e=>fQ h.seen h2 g e.symm rfl)
  ·refine Blk.far (show Blk w1 g t cs from (hg.block g h1.lt (fun e=>?_)).trans h1) h2 5 _
   obtain ⟨cs',hcs⟩:=jy h.seen e.symm
   rw [show w.heap[g]? = _ from h1] at hcs
   injection hcs with hcs
   injection hcs with _ hcs
   exact h4.2.2 hcs
end
end Go.Proofs.YtkkeocnnecegbaaGreatDoor
namespace Go.Proofs.YtkkeocnnecegbaaGreatDoor
open Go.RowKit
structure TW (w0 w:World) (R OB B:Nat):Prop where
 below:Below w0.heap.size w0 w
 r:w0.heap.size≤R
 o:w0.heap.size≤OB
 b:w0.heap.size≤B
theorem TW.next {w0 w w1:World} {R OB B:Nat} (h:TW w0 w R OB B) (f:FrY R OB B w w1):TW w0 w1 R OB B :=
 ⟨h.below.trans (f.below h.r h.o h.b h.below.size),h.r,h.o,h.b⟩
def Jw (l:List PV) (i:Option Nat) (a:Int):Prop:=match i with | none=>a=0 | some k=>∃ g,l[k]? = some g∧g.1.at'=a
def aF (l:List PV) (w:World) (R OB:Nat) (i:Option Nat) (code:Int) (e:Value):Prop :=
 ∃ F a,e=.iface 121 (.pointer (some ⟨F,0,none⟩))∧F≠R∧F≠OB∧Jw l i a∧Blk w F 126 #[.int .i64 a,.iface 31 (.int .i64 code)]
theorem aF.next {l:List PV} {w w1:World} {R OB B:Nat} {i:Option Nat} {code:Int} {e:Value} (h:aF l w R OB i code e) (f:FrY R OB B w w1):aF l w1 R OB i code e:=by
 obtain ⟨F,a,h1,h2,h3,h4,h5⟩:=h
 exact⟨F,a,h1,h2,h3,h4,f.hi F 126 _ h5 h2 h3 ⟨by decide,by decide,by decide⟩⟩
theorem aF.isErr {l:List PV} {w:World} {R OB:Nat} {i:Option Nat} {code:Int} {e:Value} (h:aF l w R OB i code e):∃ p,e=.iface 121 (.pointer p):=by
 obtain ⟨F,a,h1,_⟩:=h; exact⟨_,h1⟩
theorem aF.mk {l:List PV} {w:World} {R OB i:Nat} {code:Int} {g:PV} (hg:l[i]? = some g) (hR:R<w.heap.size) (hO:OB<w.heap.size):aF l (w.alloc (.cells #[.int .i64 g.1.at',.iface 31 (.int .i64 code)] 126)) R OB (some i) code (.iface 121 (.pointer (some ⟨w.heap.size,0,none⟩))) :=
 ⟨w.heap.size,_,rfl,by omega,by omega,⟨g,hg,rfl⟩,Blk.new _ _ _⟩
def xJ (l:List PV) (w:World) (R OB:Nat) (res:Except fK TS) (s':TS) (v:Value):Prop:=match res with | .ok s1=>s'=s1∧v=.nilIface | .error (i,code)=>aF l w R OB i code v
def fq (R OB B n c:Nat) (A:Option Addr) (l:List PV) (mn:Int) (va vf:Value) (s:TS) (N:Nat) (w:World) (res:Except fK TS) (e:Ending) (w':World):Prop :=
 FrY R OB B w w'∧∃ s' vs' v,StT w' R OB B n c A mn s' va vf vs'∧s'.ak=s.ak∧s'.fns=s.fns∧(∃ more,s'.seen=s.seen ++ more)∧s'.vars≤s.vars+N∧s'.seen.length≤s.seen.length+N∧e=.returned v∧xJ l w' R OB res s' v
def Im (R OB B n c:Nat) (A:Option Addr) (l:List PV) (mn:Int) (va vf vs:Value) (s:TS) (i:Nat) (v:Int) (w:World) (e:Ending) (w':World):Prop :=
 FrY R OB B w w'∧StT w' R OB B n c A mn (s.put i v) va vf vs∧∃ u,e=.returned u∧(if v<0 then aF l w' R OB (some i) 150 u else u=.nilIface)
section
variable {w0 w:World} {R OB B n c:Nat} {A:Option Addr} {l:List PV} {mn:Int} {s:TS} {va vf vs:Value}
theorem iU (hT:bg w0 A l) (hn:n=l.length) (hW:TW w0 w R OB B) (h:StT w R OB B n c A mn s va vf vs) (i:Nat) (hi:i<n) (v:Int) :
  Calls Tryz.prog 200 #[.pointer (some ⟨R,0,none⟩),.int .i64 i,.int .i64 v] w (Im R OB B n c A l mn va vf vs s i v w):=by
 have k4:w.cell? ⟨R,4,none⟩=some (.slice (some ⟨OB,0,none⟩) n n):=h.rd.cell 4
 have lR:=h.rd.lt; have lO:=h.obl.lt
 have hlen:i<s.of.length:=by rw [h.ofn]; exact hi
 have ko:w.cell? ⟨OB,i,none⟩=some (.int .i64 s.of[i]):=by
  rw [h.obl.cell i]; simp [hlen]
 have fo:=h.obl.free i
 have HS:=Lib.hid (h.put i v)
 have HF:=Lib.hid ((FrY.refl R OB B w).xQ i (.int .i64 v))
 have HW:=Lib.hid (hW.next HF.out)
 have hii:(i:Int)<(n:Int):=by omega
 have hi0:(0:Int)≤(i:Int):=by omega
 have HT:=Lib.hid hT
 obtain ⟨g,hg⟩:∃ g,l[i]? = some g:=⟨_,List.getElem?_eq_getElem (by omega)⟩
 have HG:=Lib.hid hg
 have HFY:=Lib.hid (fun (hr:(w.setCell ⟨OB,i,none⟩ (.int .i64 v)).cell? ⟨R,0,none⟩=some (.slice A n c))=>kT R n c i 150 A l g _ hr (hT.below HW.out.below) hn hg)
 have hr0:(w.setCell ⟨OB,i,none⟩ (.int .i64 v)).cell? ⟨R,0,none⟩=some (.slice A n c):=HS.out.rd.cell 0
 have HC:=Lib.hid (HFY.out hr0)
 have HLT:Hid (R<(w.setCell ⟨OB,i,none⟩ (.int .i64 v)).heap.size∧OB<(w.setCell ⟨OB,i,none⟩ (.int .i64 v)).heap.size):=Lib.hid ⟨HS.out.rd.lt,HS.out.obl.lt⟩
 have HSZ:Hid ((w.setCell ⟨OB,i,none⟩ (.int .i64 v)).heap.size=w.heap.size):=Lib.hid (by simp)
 clear h hT hW hg HFY hr0 hn
 go_enter Tryz.func200,Tryz.ntmps200
 by_cases hv:v<0
 ·have hvb:decide (v<0)=true:=decide_eq_true hv
  go_wp2_with fail
  refine HC.out.mono ?_
  rintro e w1 ⟨rfl,rfl⟩
  go_wp2_with fail
  go_ret
  have hb:=(Below.refl (w.setCell ⟨OB,i,none⟩ (.int .i64 v)).heap.size (w.setCell ⟨OB,i,none⟩ (.int .i64 v))).alloc (Nat.le_refl _) (.cells #[.int .i64 g.1.at',.iface 31 (.int .i64 150)] 126)
  refine⟨HF.out.trans (.of hb),HS.out.below hb,.iface 121 (.pointer (some ⟨w.heap.size,0,none⟩)),rfl,?_⟩
  rw [if_pos hv]
  exact⟨w.heap.size,_,rfl,Ne.symm (Nat.ne_of_lt lR),Ne.symm (Nat.ne_of_lt lO),⟨g,HG.out,rfl⟩,dF _ _ _ _ HSZ.out.symm⟩
 ·have hvb:decide (v<0)=false:=decide_eq_false hv
  clear HC
  go_wp2_with fail
  refine (mr _ _ _ _).mono ?_
  rintro e w1 ⟨rfl,rfl⟩
  go_wp2_with fail
  go_ret
  exact⟨HF.out,HS.out,.nilIface,rfl,by rw [if_neg (by omega)]⟩
theorem pq (hT:bg w0 A l) (hn:n=l.length) (hW:TW w0 w R OB B) (h:StT w R OB B n c A mn s va vf vs) (i:Nat) (g:PV) (hg:l[i]? = some g) (hv:s.vars<1000000) (hsl:s.seen.length<1000000) :
  Calls Tryz.prog 197 #[.pointer (some ⟨R,0,none⟩),.int .i64 i] w (fq R OB B n c A l mn va vf s 1 w (declT i g.1.text s)):=by
 have k0:w.cell? ⟨R,0,none⟩=some (.slice A n c):=h.rd.cell 0
 have lR:=h.rd.lt
 have hi:i<n:=by rw [hn]; exact (List.getElem?_eq_some_iff.1 hg).1
 obtain ⟨b,o,rfl,x0,x1,x2,x3,x4,x5⟩:=(hT.below hW.below).at hg
 have lb:=aa x0
 have hii:(i:Int)<(n:Int):=by omega
 obtain ⟨i0,hi0,hz0,hz1,hz2⟩:=info_parts uA
 obtain ⟨A5,c5,rfl⟩:=bJ h.seen
 obtain ⟨T,hTT⟩:∃ T:ByteArray,T=⟨g.1.text.toArray⟩:=⟨_,rfl⟩
 have hTd:T.data.toList=g.1.text:=by rw [hTT]
 rw [← hTT] at x1
 have HC1:=jN h T (by omega)
 rw [hTd] at HC1
 have HTD:=Lib.hid hTT
 have HC1:=Lib.hid HC1
 obtain ⟨m,hm⟩:∃ m,m=s.seen.length:=⟨_,rfl⟩
 rw [← hm] at h hsl
 have HM:=Lib.hid hm
 have HSN:Hid (∀ (W:World) (q:Obj),StT W R OB B n c (some ⟨b,o,none⟩) mn (s.put i s.vars) va vf (.slice A5 m c5)→(W.alloc q).ownsRow B 278 2 (.slice A5 m c5) m (bV (s.seen.map fe))):=Lib.hid (fun W q hh=>by have:=hh.seen; rw [show (s.put i s.vars).seen=s.seen from rfl,← hm] at this; exact this.alloc q)
 have HS:=Lib.hid h; have HW:=Lib.hid hW; have HT:=Lib.hid hT; have HG:=Lib.hid hg; have HN:=Lib.hid hn
 clear h hW hT hg hn x0 x2 x3 x4 x5 hTT hTd hm
 go_enter Tryz.func197,Tryz.ntmps197
 go_wp2_with fail
 refine HC1.out.mono ?_
 rintro e w1 ⟨rfl,hb1⟩
 have HS1:=Lib.hid (HS.out.below hb1)
 have HF1:Hid (FrY R OB B w w1):=Lib.hid (.of hb1)
 have HW1:=Lib.hid (HW.out.next HF1.out)
 clear hb1 HC1 k0 lR x1 lb
 by_cases hf:0≤s.find g.1.text
 case pos =>
  have hfb:decide (0≤s.find g.1.text)=true:=decide_eq_true hf
  have HD:Hid (declT i g.1.text s=.error (some i,151)):=Lib.hid (if_pos hf)
  have k0:w1.cell? ⟨R,0,none⟩=some (.slice (some ⟨b,o,none⟩) n c):=HS1.out.rd.cell 0
  have HC2:=Lib.hid (kT R n c i 151 (some ⟨b,o,none⟩) l g w1 k0 (HT.out.below HW1.out.below) HN.out HG.out)
  clear k0
  go_wp2_with fail
  refine HC2.out.mono ?_
  rintro e w2 ⟨rfl,rfl⟩
  have hb2:=(Below.refl w1.heap.size w1).alloc (Nat.le_refl _) (.cells #[.int .i64 g.1.at',.iface 31 (.int .i64 151)] 126)
  have HS2:=Lib.hid (HS1.out.below hb2)
  have HF2:Hid (FrY R OB B w (w1.alloc (.cells #[.int .i64 g.1.at',.iface 31 (.int .i64 151)] 126))):=Lib.hid (HF1.out.trans (.of hb2))
  have HE:Hid (∀ w',FrY R OB B (w1.alloc (.cells #[.int .i64 g.1.at',.iface 31 (.int .i64 151)] 126)) w'→xJ l w' R OB (declT i g.1.text s) (s.see i g.1.text) (.iface 121 (.pointer (some ⟨w1.heap.size,0,none⟩)))):=Lib.hid (fun w' f=>by
   rw [HD.out]
   exact aF.next (aF.mk HG.out HS1.out.rd.lt HS1.out.obl.lt) f)
  have IE:Hid (iO (.iface 121 (.pointer (some ⟨w1.heap.size,0,none⟩)))):=Lib.hid (Or.inr ⟨_,rfl⟩)
  clear hb2 HC2 HS1 HF1
  generalize Value.iface 121 (.pointer (some ⟨w1.heap.size,0,none⟩))=ev at *
  generalize w1.alloc (.cells #[.int .i64 g.1.at',.iface 31 (.int .i64 151)] 126)=w2 at *
  have r4:w2.cell? ⟨R,4,none⟩=some (.slice (some ⟨OB,0,none⟩) n n):=HS2.out.rd.cell 4
  have r6:w2.cell? ⟨R,6,none⟩=some (.int .i64 s.vars):=HS2.out.rd.cell 6
  have lR:=HS2.out.rd.lt; have lO:=HS2.out.obl.lt
  have hlen:i<s.of.length:=by rw [HS2.out.ofn]; exact hi
  have ko:w2.cell? ⟨OB,i,none⟩=some (.int .i64 s.of[i]):=by rw [HS2.out.obl.cell i]; simp [hlen]
  have fo:=HS2.out.obl.free i
  go_upto_region 3 with fail
  go_region
  have HS3:=Lib.hid ((HS2.out.put i s.vars).below ((Below.refl _ _).drew))
  have HF3:=Lib.hid ((((FrY.refl R OB B w2).xQ i (.int .i64 s.vars))).trans (.of (((Below.refl _ (w2.setCell ⟨OB,i,none⟩ (.int .i64 s.vars))).drew))))
  have HF03:=Lib.hid (HF2.out.trans HF3.out)
  clear r4 r6 lR lO ko fo HS2 HF2
  generalize (w2.setCell ⟨OB,i,none⟩ (.int .i64 s.vars)).drew=w3 at *
  have r5:w3.cell? ⟨R,5,none⟩=some (.slice A5 m c5):=HS3.out.rd.cell 5
  have r6:w3.cell? ⟨R,6,none⟩=some (.int .i64 s.vars):=HS3.out.rd.cell 6
  have lR:=HS3.out.rd.lt
  have hRB:=HS3.out.lt.1
  have htop:=HS3.out.top
  go_upto_region 4 with fail
  go_region_law ((refine step_append_lies _ (by rfl) _ _ _ (by rfl) B 278 i0 _ 2 24 Tryz.underlying117 hi0 hz0 hz1 hz2 rfl (by omega) (.slice A5 m c5) m (bV (s.seen.map fe)) (by rfl) ((HSN.out w3 _ HS3.out).drew) ⟨w3.heap.size,0,none⟩ 1 1 [.string T,.int .i64 s.vars] (by rfl) (by rfl) (World.news_of_block (cs:=#[.string T,.int .i64 s.vars]) (t:=278) (fr:=(0,0)) (heap_alloc_new w3 _)) (by simp [Value.oneCell']) (by omega) (by unfold maxLen; omega) (by omega) (by simp; omega) (w3.heap.size+1) (by simp) ?_; intro gg cap w4 hown4 hgrow hat hlt; have tb:Blk w4 R 119 _:=(hgrow.block R (by simp; omega) (fun e=>by have:=(HS3.out.seen.lt R e.symm).1; omega)).trans ((HS3.out.rd.alloc (.cells #[.string T,.int .i64 s.vars] 278))); have d0:w4.cell? ⟨R,5,none⟩=some (.slice A5 m c5):=tb.cell 5; have d1:=tb.free 5; have HTB:=Lib.hid tb; have HOWN:=Lib.hid hown4; have HGR:=Lib.hid hgrow; clear tb hown4 hgrow hat))
  all_goals
   have hb4:Below w3.heap.size w3 (w3.alloc (.cells #[.string T,.int .i64 s.vars] 278)).drew:=((Below.refl _ _).alloc (Nat.le_refl _) _).drew
   have hgo:=StT.vo (HS3.out.below hb4) (g.1.text,s.vars) HGR.out (v':=.slice (some ⟨gg,0,none⟩) (m+1) cap) (by
    have:=HOWN.out
    rw [HTD.out] at this
    rw [show (s.put i s.vars).seen=s.seen from rfl,← HM.out]
    exact this)
   have HS5:=Lib.hid hgo.1
   have HF5:=Lib.hid (FrY.trans (.of hb4) hgo.2)
   clear hgo hb4 HOWN HGR HTB d0 d1 r5 r6 lR
   generalize w4.setCell ⟨R,5,none⟩ (.slice (some ⟨gg,0,none⟩) (m+1) cap)=w5 at *
   have r6:w5.cell? ⟨R,6,none⟩=some (.int .i64 s.vars):=HS5.out.rd.cell 6
   have lR:=HS5.out.rd.lt
   have f6:=HS5.out.rd.free 6
   have HV:=Lib.hid (HS5.out.vars (s.vars+1))
   have HF6:=Lib.hid ((FrY.refl R OB B w5).tY 6 (.int .i64 ((s.vars+1:Nat):Int)))
   have hc1:((s.vars+1:Nat):Int)=(s.vars:Int)+1:=rfl
   have HC1:=Lib.hid hc1
   clear hc1
   go_wp2_with fail
   go_ret
   rw [← HC1.out]
   have hfr:=HF3.out.trans (HF5.out.trans HF6.out)
   refine⟨HF03.out.trans (HF5.out.trans HF6.out),s.see i g.1.text,_,ev,HV.out,rfl,rfl,⟨_,rfl⟩,Nat.le_refl _,?_,rfl,HE.out _ hfr⟩
   show (s.seen ++ [(g.1.text,s.vars)]).length≤s.seen.length+1
   rw [List.length_append]; exact Nat.le_refl _
 case neg =>
  have hfb:decide (0≤s.find g.1.text)=false:=decide_eq_false hf
  have HD:Hid (declT i g.1.text s=.ok (s.see i g.1.text)):=Lib.hid (if_neg hf)
  go_wp2_with fail
  refine (mr _ _ _ _).mono ?_
  rintro e w2 ⟨rfl,rfl⟩
  have HS2:=HS1; have HF2:=HF1
  have HE:Hid (∀ w',FrY R OB B w2 w'→xJ l w' R OB (declT i g.1.text s) (s.see i g.1.text) .nilIface):=Lib.hid (fun w' f=>by rw [HD.out]; exact⟨rfl,rfl⟩)
  have IE:Hid (iO .nilIface):=Lib.hid (Or.inl rfl)
  clear HS1 HF1
  generalize Value.nilIface=ev at *
  have r4:w2.cell? ⟨R,4,none⟩=some (.slice (some ⟨OB,0,none⟩) n n):=HS2.out.rd.cell 4
  have r6:w2.cell? ⟨R,6,none⟩=some (.int .i64 s.vars):=HS2.out.rd.cell 6
  have lR:=HS2.out.rd.lt; have lO:=HS2.out.obl.lt
  have hlen:i<s.of.length:=by rw [HS2.out.ofn]; exact hi
  have ko:w2.cell? ⟨OB,i,none⟩=some (.int .i64 s.of[i]):=by rw [HS2.out.obl.cell i]; simp [hlen]
  have fo:=HS2.out.obl.free i
  go_upto_region 3 with fail
  go_region
  have HS3:=Lib.hid ((HS2.out.put i s.vars).below ((Below.refl _ _).drew))
  have HF3:=Lib.hid ((((FrY.refl R OB B w2).xQ i (.int .i64 s.vars))).trans (.of (((Below.refl _ (w2.setCell ⟨OB,i,none⟩ (.int .i64 s.vars))).drew))))
  have HF03:=Lib.hid (HF2.out.trans HF3.out)
  clear r4 r6 lR lO ko fo HS2 HF2
  generalize (w2.setCell ⟨OB,i,none⟩ (.int .i64 s.vars)).drew=w3 at *
  have r5:w3.cell? ⟨R,5,none⟩=some (.slice A5 m c5):=HS3.out.rd.cell 5
  have r6:w3.cell? ⟨R,6,none⟩=some (.int .i64 s.vars):=HS3.out.rd.cell 6
  have lR:=HS3.out.rd.lt
  have hRB:=HS3.out.lt.1
  have htop:=HS3.out.top
  go_upto_region 4 with fail
  go_region_law ((refine step_append_lies _ (by rfl) _ _ _ (by rfl) B 278 i0 _ 2 24 Tryz.underlying117 hi0 hz0 hz1 hz2 rfl (by omega) (.slice A5 m c5) m (bV (s.seen.map fe)) (by rfl) ((HSN.out w3 _ HS3.out).drew) ⟨w3.heap.size,0,none⟩ 1 1 [.string T,.int .i64 s.vars] (by rfl) (by rfl) (World.news_of_block (cs:=#[.string T,.int .i64 s.vars]) (t:=278) (fr:=(0,0)) (heap_alloc_new w3 _)) (by simp [Value.oneCell']) (by omega) (by unfold maxLen; omega) (by omega) (by simp; omega) (w3.heap.size+1) (by simp) ?_; intro gg cap w4 hown4 hgrow hat hlt; have tb:Blk w4 R 119 _:=(hgrow.block R (by simp; omega) (fun e=>by have:=(HS3.out.seen.lt R e.symm).1; omega)).trans ((HS3.out.rd.alloc (.cells #[.string T,.int .i64 s.vars] 278))); have d0:w4.cell? ⟨R,5,none⟩=some (.slice A5 m c5):=tb.cell 5; have d1:=tb.free 5; have HTB:=Lib.hid tb; have HOWN:=Lib.hid hown4; have HGR:=Lib.hid hgrow; clear tb hown4 hgrow hat))
  all_goals
   have hb4:Below w3.heap.size w3 (w3.alloc (.cells #[.string T,.int .i64 s.vars] 278)).drew:=((Below.refl _ _).alloc (Nat.le_refl _) _).drew
   have hgo:=StT.vo (HS3.out.below hb4) (g.1.text,s.vars) HGR.out (v':=.slice (some ⟨gg,0,none⟩) (m+1) cap) (by
    have:=HOWN.out
    rw [HTD.out] at this
    rw [show (s.put i s.vars).seen=s.seen from rfl,← HM.out]
    exact this)
   have HS5:=Lib.hid hgo.1
   have HF5:=Lib.hid (FrY.trans (.of hb4) hgo.2)
   clear hgo hb4 HOWN HGR HTB d0 d1 r5 r6 lR
   generalize w4.setCell ⟨R,5,none⟩ (.slice (some ⟨gg,0,none⟩) (m+1) cap)=w5 at *
   have r6:w5.cell? ⟨R,6,none⟩=some (.int .i64 s.vars):=HS5.out.rd.cell 6
   have lR:=HS5.out.rd.lt
   have f6:=HS5.out.rd.free 6
   have HV:=Lib.hid (HS5.out.vars (s.vars+1))
   have HF6:=Lib.hid ((FrY.refl R OB B w5).tY 6 (.int .i64 ((s.vars+1:Nat):Int)))
   have hc1:((s.vars+1:Nat):Int)=(s.vars:Int)+1:=rfl
   have HC1:=Lib.hid hc1
   clear hc1
   go_wp2_with fail
   go_ret
   rw [← HC1.out]
   have hfr:=HF3.out.trans (HF5.out.trans HF6.out)
   refine⟨HF03.out.trans (HF5.out.trans HF6.out),s.see i g.1.text,_,ev,HV.out,rfl,rfl,⟨_,rfl⟩,Nat.le_refl _,?_,rfl,HE.out _ hfr⟩
   show (s.seen ++ [(g.1.text,s.vars)]).length≤s.seen.length+1
   rw [List.length_append]; exact Nat.le_refl _
end
end Go.Proofs.YtkkeocnnecegbaaGreatDoor
namespace Go.Proofs.YtkkeocnnecegbaaGreatDoor
open Go
def takesOk (md:Region.Mode) (ops:Array Oper):List Nat→Array Bool→Bool
 | [],_=>true
 | i :: r,listed=>Region.free md ops listed i && (Region.ready md ops listed).contains i && ((i :: r).all fun j=>match ops[i]?,ops[j]? with
   | some oi,some oj=>(match oj.dst with | some d=>!(oi.looksAt ops).contains d | none=>true)
   | _,_=>false) && takesOk md ops r (listed.setIfInBounds i true)
def tQ:List Nat→Array Bool→Array Bool
 | [],l=>l
 | i :: r,l=>tQ r (l.setIfInBounds i true)
def mF (ops:Array Oper):List (Nat×Value)→Act→Act
 | [],a=>a
 | (i,v) :: r,a=>mF ops r (a.put ((ops[i]?).bind (·.dst)) v)
def iF (P:Program) (ops:Array Oper) (S:World→Prop) (F:Act) (l:List (Nat×Value)):Prop :=
 ∀ p∈l,∀ o,ops[p.1]? = some o→YieldsIf P ops S o p.2 F
section
variable {P:Program} {ops:Array Oper} {Q:Exit→Act→World→Prop} {md:Region.Mode} {S:World→Prop}
theorem iF.nil {F:Act}:iF P ops S F []:=fun _ h=>by cases h
theorem iF.cons {F:Act} {i:Nat} {v:Value} {r:List (Nat×Value)} (o:Oper) (ho:ops[i]? = some o) (h:YieldsIf P ops S o v F) (hr:iF P ops S F r):iF P ops S F ((i,v) :: r):=by
 intro p hp o' ho'
 rcases List.mem_cons.1 hp with rfl | hp
 ·rw [ho] at ho'; injection ho' with e; subst e; exact h
 ·exact hr p hp o' ho'
theorem oP (o:Oper) (hs:∀ cs b,o.op≠.select cs b):∀ (l:List (Nat×Value)) (a:Act),(∀ p∈l,∀ d,(ops[p.1]?).bind (·.dst)=some d→d ∉ o.looksAt ops) →
  execOp (mF ops l a).eval o=execOp a.eval o∧Region.wanted o (yielded ops (mF ops l a).tmps)=Region.wanted o (yielded ops a.tmps)
 | [],a,_=>⟨rfl,rfl⟩
 | (i,v) :: r,a,h=>by
  have ih:=oP o hs r (a.put ((ops[i]?).bind (·.dst)) v) (fun p hp=>h p (List.mem_cons_of_mem _ hp))
  have h1:=h (i,v) (List.mem_cons_self ..)
  exact⟨ih.1.trans (execOp_put o hs a _ v h1),ih.2.trans (wanted_put o a _ v h1)⟩
theorem pV (hs:Region.noSelect ops=true) (hQ:∀ c a d v w,Q (.panic c) (Act.put a (some d) v) w→Q (.panic c) a w) :
  ∀ (l:List (Nat×Value)) (N fuel:Nat) (listed:Array Bool) (a:Act) (w:World),N=fuel+l.length→takesOk md ops (l.map (·.1)) listed=true→iF P ops S (mF ops l a) l→S w →
  wpAnyH P md ops Q S fuel (tQ (l.map (·.1)) listed) (mF ops l a) w→wpAnyH P md ops Q S N listed a w
 | [],_,fuel,listed,a,w,hN,_,_,_,h=>by subst hN; exact h
 | (i,v) :: r,_,fuel,listed,a,w,hN,hok,hy,hS,h=>by
  subst hN
  simp only [List.map_cons,takesOk,Bool.and_eq_true] at hok
  obtain ⟨⟨⟨h1,h2⟩,h3⟩,h4⟩:=hok
  rw [List.all_eq_true] at h3
  cases hoi:ops[i]? with
  | none=>have:=h3 i (List.mem_cons_self ..); simp [hoi] at this
  | some oi =>
   have hap:∀ p∈(i,v) :: r,∀ d,(ops[p.1]?).bind (·.dst)=some d→d ∉ oi.looksAt ops:=by
    intro p hp d hd hin
    have:=h3 p.1 (by
     rcases List.mem_cons.1 hp with rfl | hp
     ·exact List.mem_cons_self ..
     ·exact List.mem_cons_of_mem _ (List.mem_map.2 ⟨p,hp,rfl⟩))
    rw [hoi] at this
    cases hoj:ops[p.1]? with
    | none=>rw [hoj] at hd; cases hd
    | some oj =>
     rw [hoj] at this hd
     simp only [Option.bind_some] at hd
     simp only [hd] at this
     simp [hin] at this
   have hsel:=Region.noSelect_spec hs i oi
   have e:=oP (ops:=ops) oi (fun cs b=>hsel cs b hoi) ((i,v) :: r) a hap
   have hyi:YieldsIf P ops S oi v a:=by
    have h0:=hy (i,v) (List.mem_cons_self ..) oi hoi
    unfold YieldsIf at h0 ⊢
    rw [e.1,e.2] at h0
    exact h0
   have hb:(ops[i]?).bind (·.dst)=oi.dst:=by rw [hoi]; rfl
   refine wpAnyH_take (fuel:=fuel+r.length) hoi hs h1 h2 (fun c a w h=>?_) hyi hS ?_
   ·cases hd:oi.dst with
    | none=>rw [hd] at h; exact h
    | some d=>rw [hd] at h; exact hQ c a d v w h
   refine pV hs hQ r _ fuel _ _ w rfl h4 ?_ hS ?_
   ·rw [← hb]; exact fun p hp=>hy p (List.mem_cons_of_mem _ hp)
   ·rw [← hb]; exact h
def AV (ops:Array Oper) (l:List (Nat×Option Nat×Value)):Bool:=l.all fun p=>(ops[p.1]?).bind (·.dst) == p.2.1
def putD:List (Nat×Option Nat×Value)→Act→Act
 | [],a=>a
 | (_,d,v) :: r,a=>putD r (a.put d v)
theorem yA:∀ (l:List (Nat×Option Nat×Value)) (a:Act),AV ops l=true→mF ops (l.map (fun p=>(p.1,p.2.2))) a=putD l a
 | [],a,_=>rfl
 | (i,d,v) :: r,a,h=>by
  unfold AV at h
  simp only [List.all_cons,Bool.and_eq_true,beq_iff_eq] at h
  show mF ops (r.map _) (a.put _ v)=putD r (a.put d v)
  rw [h.1]
  exact yA r _ h.2
def ai (P:Program) (ops:Array Oper) (S:World→Prop) (F:Act) (l:List (Nat×Option Nat×Value)):Prop :=
 iF P ops S F (l.map (fun p=>(p.1,p.2.2)))
theorem ai.nil {F:Act}:ai P ops S F []:=iF.nil
theorem ai.cons {F:Act} {i:Nat} {d:Option Nat} {v:Value} {r:List (Nat×Option Nat×Value)} (o:Oper) (ho:ops[i]? = some o) (h:YieldsIf P ops S o v F) (hr:ai P ops S F r):ai P ops S F ((i,d,v) :: r):=iF.cons o ho h hr
theorem ai.guard {F:Act} {i:Nat} {d:Option Nat} {v:Value} {r:List (Nat×Option Nat×Value)} (g dg:Nat) (want b:Bool) {o:Oper} (ho:ops[i]? = some o) (hg:(o.guard == some (g,want))=true) (hd:((ops[g]?).bind (·.dst) == some dg)=true) (hb:F.tmps[dg]? = some (.bool b))
  (h:b=want→∀ w,S w→(execOp F.eval o).run P w=.ok (.value v) w) (h2:b≠want→v=undef) (hr:ai P ops S F r):ai P ops S F ((i,d,v) :: r):=by
 refine ai.cons o ho ?_ hr
 have hw:Region.wanted o (yielded ops F.tmps)=(b == want):=by
  unfold Region.wanted yielded
  rw [beq_iff_eq] at hg hd
  rw [hg]
  simp only [hd,Option.bind_some,hb]
  cases b <;> cases want <;> rfl
 by_cases e:b=want
 ·exact Or.inl ⟨by rw [hw]; simpa using e,h e⟩
 ·exact Or.inr ⟨by rw [hw]; simpa using e,h2 e⟩
theorem aJ (l:List (Nat×Option Nat×Value)) (fuel:Nat) {N:Nat} {listed:Array Bool} {a:Act} {w:World} (hs:Region.noSelect ops=true) (hQ:∀ c a d v w,Q (.panic c) (Act.put a (some d) v) w→Q (.panic c) a w) (hN:N=fuel+l.length) (hok:(takesOk md ops (l.map (·.1)) listed && AV ops l)=true) (hS:S w)
  (h:∀ F:Act,F=putD l a→ai P ops S F l∧wpAnyH P md ops Q S fuel (tQ (l.map (·.1)) listed) F w):wpAnyH P md ops Q S N listed a w:=by
 rw [Bool.and_eq_true] at hok
 obtain ⟨h1,h2⟩:=h _ rfl
 have e:=yA l a hok.2
 have em:(l.map (fun p=>(p.1,p.2.2))).map (·.1)=l.map (·.1):=by rw [List.map_map]; rfl
 refine pV hs hQ (l.map (fun p=>(p.1,p.2.2))) N fuel listed a w (by rw [List.length_map]; exact hN) (by rw [em]; exact hok.1) ?_ hS ?_
 ·rw [e]; exact h1
 ·rw [e,em]; exact h2
theorem bN {fuel:Nat} {listed:Array Bool} {a:Act} {w:World} (i:Nat) (d:Option Nat) {o:Oper} (ho:ops[i]? = some o) (hd:((ops[i]?).bind (·.dst) == d)=true) (hr:Region.ready md ops listed=[i])
  (h:∀ K':Act→World→Prop,Shut (∀ v w',S w'→wpAnyH P md ops Q S fuel (listed.setIfInBounds i true) (a.put d v) w'→K' (a.put o.dst v) w')→if Region.wanted o (yielded ops a.tmps)=true then Oper.wp P o a w K' Q else K' (a.put o.dst undef) w):wpAnyH P md ops Q S (fuel+1) listed a w:=by
 have e:o.dst=d:=by rw [ho] at hd; simpa using hd
 refine wpAnyH_ready hr (by simp) (AllReadyH.cons ho (fun K' hK=>h K' (fun v w' hS hW=>hK.out _ _ hS (fun _=>?_))) AllReadyH.nil)
 rw [e]
 exact hW
theorem Cm {fuel:Nat} {listed:Array Bool} {a:Act} {w:World} (i j:Nat) (d e:Option Nat) {o p:Oper} (ho:ops[i]? = some o) (hp:ops[j]? = some p) (hd:((ops[i]?).bind (·.dst) == d)=true) (he:((ops[j]?).bind (·.dst) == e)=true) (hr:Region.ready md ops listed=[i,j])
  (h:∀ K':Act→World→Prop,Shut (∀ v w',S w'→wpAnyH P md ops Q S fuel (listed.setIfInBounds i true) (a.put d v) w'→K' (a.put o.dst v) w')→if Region.wanted o (yielded ops a.tmps)=true then Oper.wp P o a w K' Q else K' (a.put o.dst undef) w)
  (h2:∀ K':Act→World→Prop,Shut (∀ v w',S w'→wpAnyH P md ops Q S fuel (listed.setIfInBounds j true) (a.put e v) w'→K' (a.put p.dst v) w')→if Region.wanted p (yielded ops a.tmps)=true then Oper.wp P p a w K' Q else K' (a.put p.dst undef) w):wpAnyH P md ops Q S (fuel+1) listed a w:=by
 have e1:o.dst=d:=by rw [ho] at hd; simpa using hd
 have e2:p.dst=e:=by rw [hp] at he; simpa using he
 refine wpAnyH_ready hr (by simp) (AllReadyH.cons ho (fun K' hK=>h K' (fun v w' hS hW=>hK.out _ _ hS (fun _=>?_))) (AllReadyH.cons hp (fun K' hK=>h2 K' (fun v w' hS hW=>hK.out _ _ hS (fun _=>?_))) AllReadyH.nil))
 ·rw [e1]
  exact hW
 ·rw [e2]
  exact hW
end
end Go.Proofs.YtkkeocnnecegbaaGreatDoor
