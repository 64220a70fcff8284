/- Joint text: WalkB, WalkC, WalkD. By an AI agent. -/
import Derived.Test.YtkkeocnnecegbaaGreatDoorQ02
import Derived.Deep.RegionHeld3
import Derived.Laws.EntriesVeiled
import Derived.Lib.Strings
import Derived.Lib.Walk
import Derived.Lib.ConvBytes
import Derived.Lib.ParseIntBMem
import Derived.Laws.Strings3
import Derived.Laws.Closers25
import Derived.Laws.Closers25b
import Derived.BigCall
import Derived.BigGuard
set_option linter.all false
set_option maxRecDepth 100000
set_option maxHeartbeats 64000000
namespace Go.Proofs.YtkkeocnnecegbaaGreatDoor
open Go.RowKit
theorem lD (s:ByteArray) (w:World) :
  Calls Tryz.prog 61 #[.string s] w fun e w'=>e=.returned (.bool (gZ s.data.toList))∧w=w':=by
 have hl:gZ s.data.toList=decide (s.data.toList∈oI):=rfl
 rw [hl]
 have HL:ByteArray.toList s=s.data.toList:=ByteArray.toList_eq s
 generalize s.data.toList=l at *
 go_enter Tryz.func61,Tryz.ntmps61
 go_wp2_with fail
 all_goals first
  | (exfalso; simp_all; done)
  | (go_ret
     exact⟨dM (by simp_all [oI]),rfl⟩)
theorem JQ (s:ByteArray) (h:s.size=1):s.data.toList=[s[0]]:=by
 have h1:s.data.toList.length=1:=by rw [bB]; exact h
 match hl:s.data.toList,h1 with
 | [x],_ =>
  have:=byte_at s 0 (by omega)
  simp only [hl,List.getElem_cons_zero] at this
  rw [this]
theorem ES (l:List UInt8) (c:UInt8):decide (0≤Lib.indexByte l c)=decide (c∈l):=by
 have h:0≤Lib.indexByte l c↔c∈l:=by
  induction l with
  | nil=>simp [Lib.indexByte]
  | cons b l ih =>
   have hg:=Lib.indexByte_ge l c
   unfold Lib.indexByte
   by_cases hb:b=c
   ·simp [hb]
   ·have hcb:¬ c=b:=fun e=>hb e.symm
    by_cases h1:Lib.indexByte l c = -1
    ·have hn:¬ c∈l:=fun hm=>by have:=ih.2 hm; omega
     simp [hb,h1,hcb,hn]
    ·have hm:c∈l:=ih.1 (by omega)
     simp [hb,h1,hm]
     omega
 simp only [h]
theorem BZ (s:ByteArray) (w:World) (_hs:s.size≤1000000) :
  Calls Tryz.prog 104 #[.string s] w fun e w'=>e=.returned (.bool (isMarkS s.data.toList))∧w=w':=by
 have HL:ByteArray.toList s=s.data.toList:=ByteArray.toList_eq s
 have hlen:=bB s
 have k (x y:UInt8):(ByteArray.toList s == [x,y])=decide (s.data.toList=[x,y]):=by rw [HL,Bool.eq_iff_iff]; simp
 by_cases h1:s.size=1
 ·have hs0:0<s.size:=by omega
  have ho:=JQ s h1
  have hz:((s.size:Int) == 1)=true:=by rw [h1]; rfl
  have hz0:(0:Int)<(s.size:Int):=by omega
  generalize hc:s[0]'hs0=c at ho
  have hr:isMarkS s.data.toList=decide (c∈mJ):=by rw [ho]; simp [isMarkS,jk]
  rw [hr]
  have k1:(ByteArray.toList s == [60,61])=false:=by rw [k,ho]; simp
  have k2:(ByteArray.toList s == [61,61])=false:=by rw [k,ho]; simp
  have k3:(ByteArray.toList s == [33,61])=false:=by rw [k,ho]; simp
  have k4:(ByteArray.toList s == [60,60])=false:=by rw [k,ho]; simp
  have k5:(ByteArray.toList s == [62,62])=false:=by rw [k,ho]; simp
  clear ho hr HL hlen k h1
  have HI:=Lib.hid (ES mJ c)
  go_enter Tryz.func104,Tryz.ntmps104
  go_wp2_with fail
  refine (Tryz.strings_IndexByte ⟨mJ.toArray⟩ _ _).mono ?_; rintro e w' ⟨rfl,rfl⟩
  go_wp2_with fail
  go_ret
  exact⟨dM (by rw [← HI.out]),rfl⟩
 ·have hz:((s.size:Int) == 1)=false:=by simp; omega
  have hr:isMarkS s.data.toList=decide (s.data.toList∈jk):=by
   unfold isMarkS
   split
   ·rename_i c hc; rw [hc] at hlen; simp at hlen; omega
   ·simp
  rw [hr]
  clear hr HL hlen
  have k1:=k 60 61
  have k2:=k 61 61
  have k3:=k 33 61
  have k4:=k 60 60
  have k5:=k 62 62
  clear k
  generalize s.data.toList=l at *
  by_cases e1:l=[60,61]
  ·rw [decide_eq_true e1] at k1
   clear k2 k3 k4 k5
   have HE:=Lib.hid e1; clear e1
   go_enter Tryz.func104,Tryz.ntmps104
   go_wp2_with fail
   go_ret
   exact⟨dM (by rw [HE.out]; rfl),rfl⟩
  by_cases e2:l=[61,61]
  ·rw [decide_eq_false e1] at k1
   rw [decide_eq_true e2] at k2
   clear k3 k4 k5 e1
   have HE:=Lib.hid e2; clear e2
   go_enter Tryz.func104,Tryz.ntmps104
   go_wp2_with fail
   go_ret
   exact⟨dM (by rw [HE.out]; rfl),rfl⟩
  by_cases e3:l=[33,61]
  ·rw [decide_eq_false e1] at k1
   rw [decide_eq_false e2] at k2
   rw [decide_eq_true e3] at k3
   clear k4 k5 e1 e2
   have HE:=Lib.hid e3; clear e3
   go_enter Tryz.func104,Tryz.ntmps104
   go_wp2_with fail
   go_ret
   exact⟨dM (by rw [HE.out]; rfl),rfl⟩
  by_cases e4:l=[60,60]
  ·rw [decide_eq_false e1] at k1
   rw [decide_eq_false e2] at k2
   rw [decide_eq_false e3] at k3
   rw [decide_eq_true e4] at k4
   clear k5 e1 e2 e3
   have HE:=Lib.hid e4; clear e4
   go_enter Tryz.func104,Tryz.ntmps104
   go_wp2_with fail
   go_ret
   exact⟨dM (by rw [HE.out]; rfl),rfl⟩
  by_cases e5:l=[62,62]
  ·rw [decide_eq_false e1] at k1
   rw [decide_eq_false e2] at k2
   rw [decide_eq_false e3] at k3
   rw [decide_eq_false e4] at k4
   rw [decide_eq_true e5] at k5
   clear e1 e2 e3 e4
   have HE:=Lib.hid e5; clear e5
   go_enter Tryz.func104,Tryz.ntmps104
   go_wp2_with fail
   go_ret
   exact⟨dM (by rw [HE.out]; rfl),rfl⟩
  have hno:decide (l∈jk)=false:=by simp [jk,e1,e2,e3,e4,e5]
  rw [hno]
  rw [decide_eq_false e1] at k1
  rw [decide_eq_false e2] at k2
  rw [decide_eq_false e3] at k3
  rw [decide_eq_false e4] at k4
  rw [decide_eq_false e5] at k5
  clear e1 e2 e3 e4 e5 hno
  go_enter Tryz.func104,Tryz.ntmps104
  go_wp2_with fail
  go_ret
  exact⟨rfl,rfl⟩
theorem aa {w:World} {b o:Nat} {v:Value} (h:w.cell? ⟨b,o,none⟩=some v):b<w.heap.size:=by
 unfold World.cell? at h
 rcases Nat.lt_or_ge b w.heap.size with h' | h'
 ·exact h'
 ·simp [Array.getElem?_eq_none h'] at h
theorem iW (s:ByteArray) (n:Nat):(s.extract 0 n).data.toList=s.data.toList.take n:=by
 simp [ByteArray.data_extract]
theorem ma (s:ByteArray) (n:Nat) (h:s.size≤1000000):(s.extract 0 n).size≤1000000:=by
 rw [← bB,iW,List.length_take,bB]; omega
theorem jE (s:ByteArray) (v:Bool) (w:World) (hs:s.size≤1000000) (hv:isMarkS s.data.toList=v) :
  Calls Tryz.prog 104 #[.string s] w fun e w'=>e=.returned (.bool v)∧w=w':=hv ▸ BZ s w hs
def nWord (l:List UInt8):Nat:=match l with | []=>0 | c :: _=>if isLet c then aQ gY l else 0
theorem p9 (s:ByteArray) (h:0<s.size):∃ r,s.data.toList=s[0] :: r:=by
 match hl:s.data.toList,bB s with
 | [],h'=>simp at h'; omega
 | x :: r,_ =>
  have:=byte_at s 0 h
  simp only [hl,List.getElem_cons_zero] at this
  exact⟨r,by rw [this]⟩
theorem Dn (s:ByteArray) (p:Nat) (w:World) (hs:s.size≤1000000) (h0:0<s.size) (hp:w.cell? ⟨p,0,none⟩=some (.string s)) :
  Calls Tryz.prog 97 #[.pointer (some ⟨p,0,none⟩)] w fun e w'=>e=.returned (.int .i64 (nWord s.data.toList))∧Below w.heap.size w w':=by
 obtain ⟨r,hr⟩:=p9 s h0
 have hlp:=aa hp
 have h0':(0:Int)<(s.size:Int):=by omega
 generalize hc:s[0]'h0=c at hr
 cases hl:isLet c
 ·have hn:nWord s.data.toList=0:=by rw [hr]; simp [nWord,hl]
  rw [hn]
  have HL:=Lib.hid hl
  clear hr hn hl
  go_enter Tryz.func97,Tryz.ntmps97
  go_wp2_with fail
  refine (gD c _).mono ?_; rw [HL.out]; rintro e w' ⟨rfl,rfl⟩
  go_wp2_with fail
  go_ret
  exact⟨rfl,Below.refl _ _⟩
 ·have hn:nWord s.data.toList=aQ gY s.data.toList:=by rw [hr]; simp [nWord,hl]
  rw [hn]
  have HL:=Lib.hid hl
  clear hr hn hl
  go_enter Tryz.func97,Tryz.ntmps97
  go_wp2_with fail
  refine (gD c _).mono ?_; rw [HL.out]; rintro e w' ⟨rfl,rfl⟩
  go_wp2_with fail
  clear hc
  go_region_held3 (fun W=>W.cell? ⟨p,0,none⟩=some (.string s)) (go_keep)
   (first
    | (go_at_call 99; refine (wY _).mono ?_; rintro e w1 ⟨rfl,rfl⟩)
    | (go_at_call 101; refine (pU s _ _ _ hs (by simp) (by simp)).mono ?_; rintro e w1 ⟨rfl,rfl⟩))
  go_wp2_with fail
  go_ret
  exact⟨rfl,(((Below.refl _ _).drew.alloc (by simp) _).alloc (by simp) _)⟩
theorem Es (s:ByteArray) (p:Nat) (w:World) (hs:s.size≤1000000) (hp:w.cell? ⟨p,0,none⟩=some (.string s)) :
  Calls Tryz.prog 102 #[.pointer (some ⟨p,0,none⟩)] w fun e w'=>e=.returned (.int .i64 (aQ aU s.data.toList))∧Below w.heap.size w w':=by
 go_enter Tryz.func102,Tryz.ntmps102
 go_wp2_with fail
 refine (H6 s _ hs).mono ?_; rintro e w' ⟨rfl,rfl⟩
 go_wp2_with fail
 go_ret
 exact⟨rfl,Below.refl _ _⟩
theorem D5 (s:ByteArray) (p:Nat) (w:World) (hs:s.size≤1000000) (h0:0<s.size) (hp:w.cell? ⟨p,0,none⟩=some (.string s)) :
  Calls Tryz.prog 103 #[.pointer (some ⟨p,0,none⟩)] w fun e w'=>e=.returned (.int .i64 (aV s.data.toList))∧Below w.heap.size w w':=by
 by_cases h2:2≤s.size
 ·have hmin:min (2:Int) (s.size:Int)=2:=by omega
  have h2':(2:Int)≤(s.size:Int):=by omega
  cases hm:isMarkS (s.data.toList.take 2)
  ·cases hm1:isMarkS (s.data.toList.take 1)
   ·have HM:=Lib.hid hm; have HM1:=Lib.hid hm1
    have hn:aV s.data.toList=0:=by simp [aV,hm,hm1]
    rw [hn]
    clear hm hm1 hn
    go_enter Tryz.func103,Tryz.ntmps103
    go_wp2_with fail
    refine wp_loop_rounds 3 ?_
    rw [rounds_succ]
    go_wp2_with fail
    refine (jE (s.extract 0 2) false _ (ma s 2 hs) (by rw [iW]; exact HM.out)).mono ?_; rintro e w' ⟨rfl,rfl⟩
    go_wp2_with fail
    rw [rounds_succ]
    go_wp2_with fail
    refine (jE (s.extract 0 1) false _ (ma s 1 hs) (by rw [iW]; exact HM1.out)).mono ?_; rintro e w' ⟨rfl,rfl⟩
    go_wp2_with fail
    rw [rounds_succ]
    go_wp2_with fail
    go_ret
    exact⟨rfl,Below.refl _ _⟩
   ·have HM:=Lib.hid hm; have HM1:=Lib.hid hm1
    have hn:aV s.data.toList=1:=by simp [aV,hm,hm1]
    rw [hn]
    clear hm hm1 hn
    go_enter Tryz.func103,Tryz.ntmps103
    go_wp2_with fail
    refine wp_loop_rounds 3 ?_
    rw [rounds_succ]
    go_wp2_with fail
    refine (jE (s.extract 0 2) false _ (ma s 2 hs) (by rw [iW]; exact HM.out)).mono ?_; rintro e w' ⟨rfl,rfl⟩
    go_wp2_with fail
    rw [rounds_succ]
    go_wp2_with fail
    refine (jE (s.extract 0 1) true _ (ma s 1 hs) (by rw [iW]; exact HM1.out)).mono ?_; rintro e w' ⟨rfl,rfl⟩
    go_wp2_with fail
    go_ret
    exact⟨rfl,Below.refl _ _⟩
  ·have HM:=Lib.hid hm
   have hn:aV s.data.toList=2:=by simp [aV,hm]; omega
   rw [hn]
   clear hm hn
   go_enter Tryz.func103,Tryz.ntmps103
   go_wp2_with fail
   refine wp_loop_rounds 3 ?_
   rw [rounds_succ]
   go_wp2_with fail
   refine (jE (s.extract 0 2) true _ (ma s 2 hs) (by rw [iW]; exact HM.out)).mono ?_; rintro e w' ⟨rfl,rfl⟩
   go_wp2_with fail
   go_ret
   exact⟨rfl,Below.refl _ _⟩
 ·have h1:s.size=1:=by omega
  have hmin:min (2:Int) (s.size:Int)=1:=by omega
  have h2':(1:Int)≤(s.size:Int):=by omega
  have h12:s.data.toList.take 2=s.data.toList.take 1:=by rw [List.take_of_length_le (by rw [bB]; omega),List.take_of_length_le (by rw [bB]; omega)]
  cases hm1:isMarkS (s.data.toList.take 1)
  ·have HM1:=Lib.hid hm1
   have hn:aV s.data.toList=0:=by simp [aV,h12,hm1]
   rw [hn]
   clear hm1 hn h1 h12
   go_enter Tryz.func103,Tryz.ntmps103
   go_wp2_with fail
   refine wp_loop_rounds 3 ?_
   rw [rounds_succ]
   go_wp2_with fail
   refine (jE (s.extract 0 1) false _ (ma s 1 hs) (by rw [iW]; exact HM1.out)).mono ?_; rintro e w' ⟨rfl,rfl⟩
   go_wp2_with fail
   rw [rounds_succ]
   go_wp2_with fail
   go_ret
   exact⟨rfl,Below.refl _ _⟩
  ·have HM1:=Lib.hid hm1
   have hn:aV s.data.toList=1:=by simp [aV,h12,hm1]; omega
   rw [hn]
   clear hm1 hn h1 h12
   go_enter Tryz.func103,Tryz.ntmps103
   go_wp2_with fail
   refine wp_loop_rounds 3 ?_
   rw [rounds_succ]
   go_wp2_with fail
   refine (jE (s.extract 0 1) true _ (ma s 1 hs) (by rw [iW]; exact HM1.out)).mono ?_; rintro e w' ⟨rfl,rfl⟩
   go_wp2_with fail
   go_ret
   exact⟨rfl,Below.refl _ _⟩
end Go.Proofs.YtkkeocnnecegbaaGreatDoor
namespace Go.Proofs.YtkkeocnnecegbaaGreatDoor
open Go.RowKit
def Blk (W:World) (g:Nat) (t:TypeId) (cs:Array Value):Prop:=W.heap[g]? = some (.cells cs t (0,0))
section
variable {W W':World} {g:Nat} {t:TypeId} {cs:Array Value}
theorem Blk.lt (h:Blk W g t cs):g<W.heap.size:=by
 rcases Nat.lt_or_ge g W.heap.size with hlt | hge
 ·exact hlt
 ·unfold Blk at h; rw [Array.getElem?_eq_none hge] at h; cases h
theorem Blk.cell (h:Blk W g t cs) (i:Nat):W.cell? ⟨g,i,none⟩=cs[i]?:=by
 unfold Blk at h; unfold World.cell?; simp [h]
theorem Blk.free (h:Blk W g t cs) (i:Nat):W.frozen? ⟨g,i,none⟩=false:=by
 unfold Blk at h; simp [World.frozen?,h]
theorem Blk.new (W:World) (t:TypeId) (cs:Array Value):Blk (W.alloc (.cells cs t)) W.heap.size t cs:=heap_alloc_new W _
theorem Blk.below (h:Blk W g t cs) (hb:Below W.heap.size W W'):Blk W' g t cs:=(hb.block g h.lt).trans h
theorem Blk.alloc (h:Blk W g t cs) (o:Obj):Blk (W.alloc o) g t cs:=h.below ((Below.refl _ _).alloc (Nat.le_refl _) _)
theorem Blk.put (h:Blk W g t cs) (i:Nat) (u:Value):Blk (W.setCell ⟨g,i,none⟩ u) g t (cs.setIfInBounds i u):=by
 unfold Blk at h ⊢
 simp [World.setCell,Array.getElem?_modify,h]
theorem Blk.far (h:Blk W g t cs) {g':Nat} (hne:g≠g') (i:Nat) (u:Value):Blk (W.setCell ⟨g',i,none⟩ u) g t cs:=(Below.heap_setCell W ⟨g',i,none⟩ u g hne).trans h
end
theorem GG (s:ByteArray) (w:World) (hs:s.size≤1000000) (h0:0<s.size) :
  Calls Tryz.prog 58 #[.string s] w fun e w'=>e=.returned (.agg #[.int .i64 0,.int .i64 (nWord s.data.toList),.int .i64 0,.int .i64 (aQ aU s.data.toList),.int .i64 (aV s.data.toList)])∧Below w.heap.size w w':=by
 generalize hA:nWord s.data.toList=A
 generalize hB:aQ aU s.data.toList=B
 generalize hC:aV s.data.toList=C
 have HA:=Lib.hid hA; have HB:=Lib.hid hB; have HC:=Lib.hid hC
 clear hA hB hC
 have i0:∀ W,(Instr.index 168 (.agg #[.nilFunc,.func (.func 97) #[] #[.pointer (some ⟨w.heap.size,0,none⟩)],.nilFunc,.func (.func 102) #[] #[.pointer (some ⟨w.heap.size,0,none⟩)],.func (.func 103) #[] #[.pointer (some ⟨w.heap.size,0,none⟩)]]) (.int .i64 0)).run Tryz.prog W=.ok (.nilFunc) W:=fun _=>by kernel_rfl
 have i1:∀ W,(Instr.index 168 (.agg #[.nilFunc,.func (.func 97) #[] #[.pointer (some ⟨w.heap.size,0,none⟩)],.nilFunc,.func (.func 102) #[] #[.pointer (some ⟨w.heap.size,0,none⟩)],.func (.func 103) #[] #[.pointer (some ⟨w.heap.size,0,none⟩)]]) (.int .i64 1)).run Tryz.prog W=.ok (.func (.func 97) #[] #[.pointer (some ⟨w.heap.size,0,none⟩)]) W:=fun _=>by kernel_rfl
 have i2:∀ W,(Instr.index 168 (.agg #[.nilFunc,.func (.func 97) #[] #[.pointer (some ⟨w.heap.size,0,none⟩)],.nilFunc,.func (.func 102) #[] #[.pointer (some ⟨w.heap.size,0,none⟩)],.func (.func 103) #[] #[.pointer (some ⟨w.heap.size,0,none⟩)]]) (.int .i64 2)).run Tryz.prog W=.ok (.nilFunc) W:=fun _=>by kernel_rfl
 have i3:∀ W,(Instr.index 168 (.agg #[.nilFunc,.func (.func 97) #[] #[.pointer (some ⟨w.heap.size,0,none⟩)],.nilFunc,.func (.func 102) #[] #[.pointer (some ⟨w.heap.size,0,none⟩)],.func (.func 103) #[] #[.pointer (some ⟨w.heap.size,0,none⟩)]]) (.int .i64 3)).run Tryz.prog W=.ok (.func (.func 102) #[] #[.pointer (some ⟨w.heap.size,0,none⟩)]) W:=fun _=>by kernel_rfl
 have i4:∀ W,(Instr.index 168 (.agg #[.nilFunc,.func (.func 97) #[] #[.pointer (some ⟨w.heap.size,0,none⟩)],.nilFunc,.func (.func 102) #[] #[.pointer (some ⟨w.heap.size,0,none⟩)],.func (.func 103) #[] #[.pointer (some ⟨w.heap.size,0,none⟩)]]) (.int .i64 4)).run Tryz.prog W=.ok (.func (.func 103) #[] #[.pointer (some ⟨w.heap.size,0,none⟩)]) W:=fun _=>by kernel_rfl
 have n0:∀ W,(binOp .neq 167 .nilFunc .nilFunc).run Tryz.prog W=.ok (.bool false) W:=fun _=>by kernel_rfl
 have n35:∀ W,(binOp .neq 167 (.func (.func 97) #[] #[.pointer (some ⟨w.heap.size,0,none⟩)]) .nilFunc).run Tryz.prog W=.ok (.bool true) W:=fun _=>by kernel_rfl
 have n36:∀ W,(binOp .neq 167 (.func (.func 102) #[] #[.pointer (some ⟨w.heap.size,0,none⟩)]) .nilFunc).run Tryz.prog W=.ok (.bool true) W:=fun _=>by kernel_rfl
 have n37:∀ W,(binOp .neq 167 (.func (.func 103) #[] #[.pointer (some ⟨w.heap.size,0,none⟩)]) .nilFunc).run Tryz.prog W=.ok (.bool true) W:=fun _=>by kernel_rfl
 go_enter Tryz.func58,Tryz.ntmps58
 go_wp2_with fail
 refine wp_loop_rounds 6 ?_
 rw [rounds_succ]
 go_wp2_with fail
 rw [rounds_succ]
 go_wp2_with fail
 have sT0:=Lib.hid ((((Blk.new w 9 #[.string s]).alloc _).alloc _).alloc _:Blk ((((w.alloc (.cells #[.string s] 9)).alloc (.cells #[.int .i64 0,.int .i64 0,.int .i64 0,.int .i64 0,.int .i64 0] 102)).alloc (.cells #[.int .i64 0,.int .i64 0,.int .i64 0,.int .i64 0,.int .i64 0] 102)).alloc (.cells #[.nilFunc,.func (.func 97) #[] #[.pointer (some ⟨w.heap.size,0,none⟩)],.nilFunc,.func (.func 102) #[] #[.pointer (some ⟨w.heap.size,0,none⟩)],.func (.func 103) #[] #[.pointer (some ⟨w.heap.size,0,none⟩)]] 168)) w.heap.size 9 #[.string s])
 have rT0:Hid (Blk ((((w.alloc (.cells #[.string s] 9)).alloc (.cells #[.int .i64 0,.int .i64 0,.int .i64 0,.int .i64 0,.int .i64 0] 102)).alloc (.cells #[.int .i64 0,.int .i64 0,.int .i64 0,.int .i64 0,.int .i64 0] 102)).alloc (.cells #[.nilFunc,.func (.func 97) #[] #[.pointer (some ⟨w.heap.size,0,none⟩)],.nilFunc,.func (.func 102) #[] #[.pointer (some ⟨w.heap.size,0,none⟩)],.func (.func 103) #[] #[.pointer (some ⟨w.heap.size,0,none⟩)]] 168)) (w.heap.size+1) 102 #[.int .i64 0,.int .i64 0,.int .i64 0,.int .i64 0,.int .i64 0]):=by
  have:=((Blk.new (w.alloc (.cells #[.string s] 9)) 102 #[.int .i64 0,.int .i64 0,.int .i64 0,.int .i64 0,.int .i64 0]).alloc (.cells #[.int .i64 0,.int .i64 0,.int .i64 0,.int .i64 0,.int .i64 0] 102)).alloc (.cells #[.nilFunc,.func (.func 97) #[] #[.pointer (some ⟨w.heap.size,0,none⟩)],.nilFunc,.func (.func 102) #[] #[.pointer (some ⟨w.heap.size,0,none⟩)],.func (.func 103) #[] #[.pointer (some ⟨w.heap.size,0,none⟩)]] 168)
  exact Lib.hid (by simpa using this)
 have oT0:Hid (Blk ((((w.alloc (.cells #[.string s] 9)).alloc (.cells #[.int .i64 0,.int .i64 0,.int .i64 0,.int .i64 0,.int .i64 0] 102)).alloc (.cells #[.int .i64 0,.int .i64 0,.int .i64 0,.int .i64 0,.int .i64 0] 102)).alloc (.cells #[.nilFunc,.func (.func 97) #[] #[.pointer (some ⟨w.heap.size,0,none⟩)],.nilFunc,.func (.func 102) #[] #[.pointer (some ⟨w.heap.size,0,none⟩)],.func (.func 103) #[] #[.pointer (some ⟨w.heap.size,0,none⟩)]] 168)) (w.heap.size+1+1) 102 #[.int .i64 0,.int .i64 0,.int .i64 0,.int .i64 0,.int .i64 0]):=by
  have:=((Blk.new ((w.alloc (.cells #[.string s] 9)).alloc (.cells #[.int .i64 0,.int .i64 0,.int .i64 0,.int .i64 0,.int .i64 0] 102)) 102 #[.int .i64 0,.int .i64 0,.int .i64 0,.int .i64 0,.int .i64 0])).alloc (.cells #[.nilFunc,.func (.func 97) #[] #[.pointer (some ⟨w.heap.size,0,none⟩)],.nilFunc,.func (.func 102) #[] #[.pointer (some ⟨w.heap.size,0,none⟩)],.func (.func 103) #[] #[.pointer (some ⟨w.heap.size,0,none⟩)]] 168)
  exact Lib.hid (by simpa using this)
 have bT0:Hid (Below w.heap.size w ((((w.alloc (.cells #[.string s] 9)).alloc (.cells #[.int .i64 0,.int .i64 0,.int .i64 0,.int .i64 0,.int .i64 0] 102)).alloc (.cells #[.int .i64 0,.int .i64 0,.int .i64 0,.int .i64 0,.int .i64 0] 102)).alloc (.cells #[.nilFunc,.func (.func 97) #[] #[.pointer (some ⟨w.heap.size,0,none⟩)],.nilFunc,.func (.func 102) #[] #[.pointer (some ⟨w.heap.size,0,none⟩)],.func (.func 103) #[] #[.pointer (some ⟨w.heap.size,0,none⟩)]] 168))):=((((Below.refl _ _).alloc (Nat.le_refl _) _).alloc (by simp) _).alloc (by simp; omega) _).alloc (by simp; omega) _
 generalize ((((w.alloc (.cells #[.string s] 9)).alloc (.cells #[.int .i64 0,.int .i64 0,.int .i64 0,.int .i64 0,.int .i64 0] 102)).alloc (.cells #[.int .i64 0,.int .i64 0,.int .i64 0,.int .i64 0,.int .i64 0] 102)).alloc (.cells #[.nilFunc,.func (.func 97) #[] #[.pointer (some ⟨w.heap.size,0,none⟩)],.nilFunc,.func (.func 102) #[] #[.pointer (some ⟨w.heap.size,0,none⟩)],.func (.func 103) #[] #[.pointer (some ⟨w.heap.size,0,none⟩)]] 168))=W0 at *
 refine (Dn s _ _ hs h0 (sT0.out.cell 0)).mono ?_; rw [HA.out]; rintro e w1 ⟨rfl,hb1⟩
 have sS1:=Lib.hid (sT0.out.below hb1); have rS1:=Lib.hid (rT0.out.below hb1); have oS1:=oT0.out.below hb1
 have c1:w1.cell? ⟨w.heap.size+1+1,1,none⟩=some (.int .i64 0):=oS1.cell 1
 have f1:=oS1.free 1
 have OS1:=Lib.hid oS1
 clear oS1
 go_wp2_with fail
 clear c1 f1
 have sT1:=Lib.hid (sS1.out.far (by omega) 1 (.int .i64 A):Blk (w1.setCell ⟨w.heap.size+1+1,1,none⟩ (.int .i64 A)) w.heap.size 9 #[.string s])
 have rT1:=Lib.hid (rS1.out.far (by omega) 1 (.int .i64 A):Blk (w1.setCell ⟨w.heap.size+1+1,1,none⟩ (.int .i64 A)) (w.heap.size+1) 102 #[.int .i64 0,.int .i64 0,.int .i64 0,.int .i64 0,.int .i64 0])
 have oT1:=Lib.hid (OS1.out.put 1 (.int .i64 A):Blk (w1.setCell ⟨w.heap.size+1+1,1,none⟩ (.int .i64 A)) (w.heap.size+1+1) 102 #[.int .i64 0,.int .i64 A,.int .i64 0,.int .i64 0,.int .i64 0])
 have bT1:=Lib.hid ((ag bT0.out hb1).setCell (p:=⟨w.heap.size+1+1,1,none⟩) (show w.heap.size≤w.heap.size+1+1 by omega) (.int .i64 A):Below w.heap.size w (w1.setCell ⟨w.heap.size+1+1,1,none⟩ (.int .i64 A)))
 generalize (w1.setCell ⟨w.heap.size+1+1,1,none⟩ (.int .i64 A))=W1 at *
 rw [rounds_succ]
 go_wp2_with fail
 rw [rounds_succ]
 go_wp2_with fail
 refine (Es s _ _ hs (sT1.out.cell 0)).mono ?_; rw [HB.out]; rintro e w2 ⟨rfl,hb2⟩
 have sS2:=Lib.hid (sT1.out.below hb2); have rS2:=Lib.hid (rT1.out.below hb2); have oS2:=oT1.out.below hb2
 have c2:w2.cell? ⟨w.heap.size+1+1,3,none⟩=some (.int .i64 0):=oS2.cell 3
 have f2:=oS2.free 3
 have OS2:=Lib.hid oS2
 clear oS2
 go_wp2_with fail
 clear c2 f2
 have sT2:=Lib.hid (sS2.out.far (by omega) 3 (.int .i64 B):Blk (w2.setCell ⟨w.heap.size+1+1,3,none⟩ (.int .i64 B)) w.heap.size 9 #[.string s])
 have rT2:=Lib.hid (rS2.out.far (by omega) 3 (.int .i64 B):Blk (w2.setCell ⟨w.heap.size+1+1,3,none⟩ (.int .i64 B)) (w.heap.size+1) 102 #[.int .i64 0,.int .i64 0,.int .i64 0,.int .i64 0,.int .i64 0])
 have oT2:=Lib.hid (OS2.out.put 3 (.int .i64 B):Blk (w2.setCell ⟨w.heap.size+1+1,3,none⟩ (.int .i64 B)) (w.heap.size+1+1) 102 #[.int .i64 0,.int .i64 A,.int .i64 0,.int .i64 B,.int .i64 0])
 have bT2:=Lib.hid ((ag bT1.out hb2).setCell (p:=⟨w.heap.size+1+1,3,none⟩) (show w.heap.size≤w.heap.size+1+1 by omega) (.int .i64 B):Below w.heap.size w (w2.setCell ⟨w.heap.size+1+1,3,none⟩ (.int .i64 B)))
 generalize (w2.setCell ⟨w.heap.size+1+1,3,none⟩ (.int .i64 B))=W2 at *
 rw [rounds_succ]
 go_wp2_with fail
 refine (D5 s _ _ hs h0 (sT2.out.cell 0)).mono ?_; rw [HC.out]; rintro e w3 ⟨rfl,hb3⟩
 have sS3:=Lib.hid (sT2.out.below hb3); have rS3:=Lib.hid (rT2.out.below hb3); have oS3:=oT2.out.below hb3
 have c3:w3.cell? ⟨w.heap.size+1+1,4,none⟩=some (.int .i64 0):=oS3.cell 4
 have f3:=oS3.free 4
 have OS3:=Lib.hid oS3
 clear oS3
 go_wp2_with fail
 clear c3 f3
 have sT3:=Lib.hid (sS3.out.far (by omega) 4 (.int .i64 C):Blk (w3.setCell ⟨w.heap.size+1+1,4,none⟩ (.int .i64 C)) w.heap.size 9 #[.string s])
 have rT3:=Lib.hid (rS3.out.far (by omega) 4 (.int .i64 C):Blk (w3.setCell ⟨w.heap.size+1+1,4,none⟩ (.int .i64 C)) (w.heap.size+1) 102 #[.int .i64 0,.int .i64 0,.int .i64 0,.int .i64 0,.int .i64 0])
 have oT3:=Lib.hid (OS3.out.put 4 (.int .i64 C):Blk (w3.setCell ⟨w.heap.size+1+1,4,none⟩ (.int .i64 C)) (w.heap.size+1+1) 102 #[.int .i64 0,.int .i64 A,.int .i64 0,.int .i64 B,.int .i64 C])
 have bT3:=Lib.hid ((ag bT2.out hb3).setCell (p:=⟨w.heap.size+1+1,4,none⟩) (show w.heap.size≤w.heap.size+1+1 by omega) (.int .i64 C):Below w.heap.size w (w3.setCell ⟨w.heap.size+1+1,4,none⟩ (.int .i64 C)))
 generalize (w3.setCell ⟨w.heap.size+1+1,4,none⟩ (.int .i64 C))=W3 at *
 have o0:W3.cell? ⟨w.heap.size+1+1,0,none⟩=some (.int .i64 0):=oT3.out.cell 0
 have o1:W3.cell? ⟨w.heap.size+1+1,1,none⟩=some (.int .i64 A):=oT3.out.cell 1
 have o2:W3.cell? ⟨w.heap.size+1+1,2,none⟩=some (.int .i64 0):=oT3.out.cell 2
 have o3:W3.cell? ⟨w.heap.size+1+1,3,none⟩=some (.int .i64 B):=oT3.out.cell 3
 have o4:W3.cell? ⟨w.heap.size+1+1,4,none⟩=some (.int .i64 C):=oT3.out.cell 4
 have r0:W3.cell? ⟨w.heap.size+1,0,none⟩=some (.int .i64 0):=rT3.out.cell 0
 have r1:W3.cell? ⟨w.heap.size+1,1,none⟩=some (.int .i64 0):=rT3.out.cell 1
 have r2:W3.cell? ⟨w.heap.size+1,2,none⟩=some (.int .i64 0):=rT3.out.cell 2
 have r3:W3.cell? ⟨w.heap.size+1,3,none⟩=some (.int .i64 0):=rT3.out.cell 3
 have r4:W3.cell? ⟨w.heap.size+1,4,none⟩=some (.int .i64 0):=rT3.out.cell 4
 have q0:=rT3.out.free 0
 have q1:=rT3.out.free 1
 have q2:=rT3.out.free 2
 have q3:=rT3.out.free 3
 have q4:=rT3.out.free 4
 rw [rounds_succ]
 go_wp2_with fail
 have rF:=Lib.hid (((((rT3.out.put 0 (.int .i64 0)).put 1 (.int .i64 A)).put 2 (.int .i64 0)).put 3 (.int .i64 B)).put 4 (.int .i64 C):Blk (((((W3.setCell ⟨w.heap.size+1,0,none⟩ (.int .i64 0)).setCell ⟨w.heap.size+1,1,none⟩ (.int .i64 A)).setCell ⟨w.heap.size+1,2,none⟩ (.int .i64 0)).setCell ⟨w.heap.size+1,3,none⟩ (.int .i64 B)).setCell ⟨w.heap.size+1,4,none⟩ (.int .i64 C)) (w.heap.size+1) 102 #[.int .i64 0,.int .i64 A,.int .i64 0,.int .i64 B,.int .i64 C])
 have bF:=Lib.hid (((((bT3.out.setCell (p:=⟨w.heap.size+1,0,none⟩) (Nat.le_succ _) (.int .i64 0)).setCell (p:=⟨w.heap.size+1,1,none⟩) (Nat.le_succ _) (.int .i64 A)).setCell (p:=⟨w.heap.size+1,2,none⟩) (Nat.le_succ _) (.int .i64 0)).setCell (p:=⟨w.heap.size+1,3,none⟩) (Nat.le_succ _) (.int .i64 B)).setCell (p:=⟨w.heap.size+1,4,none⟩) (Nat.le_succ _) (.int .i64 C))
 generalize (((((W3.setCell ⟨w.heap.size+1,0,none⟩ (.int .i64 0)).setCell ⟨w.heap.size+1,1,none⟩ (.int .i64 A)).setCell ⟨w.heap.size+1,2,none⟩ (.int .i64 0)).setCell ⟨w.heap.size+1,3,none⟩ (.int .i64 B)).setCell ⟨w.heap.size+1,4,none⟩ (.int .i64 C))=WF at *
 have z0:WF.cell? ⟨w.heap.size+1,0,none⟩=some (.int .i64 0):=rF.out.cell 0
 have z1:WF.cell? ⟨w.heap.size+1,1,none⟩=some (.int .i64 A):=rF.out.cell 1
 have z2:WF.cell? ⟨w.heap.size+1,2,none⟩=some (.int .i64 0):=rF.out.cell 2
 have z3:WF.cell? ⟨w.heap.size+1,3,none⟩=some (.int .i64 B):=rF.out.cell 3
 have z4:WF.cell? ⟨w.heap.size+1,4,none⟩=some (.int .i64 C):=rF.out.cell 4
 refine bodyPost_ret (v:=.agg #[.int .i64 0,.int .i64 A,.int .i64 0,.int .i64 B,.int .i64 C]) ?_ rfl ⟨rfl,bF.out⟩
 simp [results,Tryz.results58,go_sem,z0,z1,z2,z3,z4]
 trace_state
end Go.Proofs.YtkkeocnnecegbaaGreatDoor
namespace Go.Proofs.YtkkeocnnecegbaaGreatDoor
open Go.RowKit
def has (n:Nat) (q:Nat→Int) (x:Int):Bool:=decide (∃ i,i<n∧q i=x)
theorem FJ (b o n c:Nat) (q:Nat→Int) (x:Int) (w:World) (hn:n≤1000000) (hq:∀ i,i<n→w.cell? ⟨b,o+i,none⟩=some (.int .u8 (q i))) (h:∀ i,i<n→q i≠x) :
  Calls Tryz.prog 96 #[.slice (some ⟨b,o,none⟩) n c,.int .u8 x] w fun e w'=>e=.returned (.int .i64 (-1))∧w=w':=by
 have H:=Lib.hid h; clear h
 go_enter Tryz.func96,Tryz.ntmps96
 go_wp2
 go_loop [8] (fun i=>∃ k:Nat,k≤n∧i=.int .i64 k) (fun i=>n - (intOf i).toNat)
 case atStart=>exact⟨0,Nat.zero_le _,rfl⟩
 case round =>
  obtain ⟨k,hk,rfl⟩:=hrel
  by_cases hlt:k<n
  ·have e1:=hq k hlt
   have e2:(x == q k)=false:=beq_eq_false_iff_ne.2 (fun e=>H.out k hlt e.symm)
   clear hq
   go_wp2
   go_round
   case rel=>exact⟨k+1,by omega,by go_num⟩
   case measure=>simp [intOf]; omega
  ·clear hq
   go_wp2
   go_ret
   exact⟨rfl,rfl⟩
theorem EF (b o n c j:Nat) (q:Nat→Int) (x:Int) (w:World) (hn:n≤1000000) (hq:∀ i,i<n→w.cell? ⟨b,o+i,none⟩=some (.int .u8 (q i))) (hj:j<n) (hx:q j=x) (h:∀ i,i<j→q i≠x) :
  Calls Tryz.prog 96 #[.slice (some ⟨b,o,none⟩) n c,.int .u8 x] w fun e w'=>e=.returned (.int .i64 j)∧w=w':=by
 have H:=Lib.hid h; clear h
 have HX:=Lib.hid hx; clear hx
 go_enter Tryz.func96,Tryz.ntmps96
 go_wp2
 go_loop [8] (fun i=>∃ k:Nat,k≤j∧i=.int .i64 k) (fun i=>n - (intOf i).toNat)
 case atStart=>exact⟨0,Nat.zero_le _,rfl⟩
 case round =>
  obtain ⟨k,hk,rfl⟩:=hrel
  by_cases hlt:k<j
  ·have e1:=hq k (by omega)
   have e2:(x == q k)=false:=beq_eq_false_iff_ne.2 (fun e=>H.out k hlt e.symm)
   clear hq
   go_wp2
   go_round
   case rel=>exact⟨k+1,by omega,by go_num⟩
   case measure=>simp [intOf]; omega
  ·obtain rfl:k=j:=by omega
   have e1:=hq k hj
   have e2:(x == q k)=true:=beq_iff_eq.2 HX.out.symm
   clear hq
   go_wp2
   go_ret
   exact⟨rfl,rfl⟩
theorem Hl (n:Nat) (q:Nat→Int) (x:Int) (h:∃ i,i<n∧q i=x):∃ j,j<n∧q j=x∧∀ i,i<j→q i≠x:=by
 induction n with
 | zero=>obtain ⟨i,hi,_⟩:=h; omega
 | succ n ih =>
  by_cases hp:∃ i,i<n∧q i=x
  ·obtain ⟨j,hj,hx,hf⟩:=ih hp
   exact⟨j,by omega,hx,hf⟩
  ·obtain ⟨i,hi,hx⟩:=h
   have:i=n:=by
    by_cases hin:i<n
    ·exact absurd ⟨i,hin,hx⟩ hp
    ·omega
   subst this
   exact⟨i,hi,hx,fun k hk hkx=>hp ⟨k,hk,hkx⟩⟩
theorem o8 (b o n c:Nat) (q:Nat→Int) (x:Int) (w:World) (hn:n≤1000000) (hq:∀ i,i<n→w.cell? ⟨b,o+i,none⟩=some (.int .u8 (q i))) :
  Calls Tryz.prog 57 #[.slice (some ⟨b,o,none⟩) n c,.int .u8 x] w fun e w'=>e=.returned (.bool (has n q x))∧w=w':=by
 have HQ:=Lib.hid hq; clear hq
 by_cases hp:∃ i,i<n∧q i=x
 ·obtain ⟨j,hj,hx,hf⟩:=Hl n q x hp
  have hr:has n q x=true:=decide_eq_true hp
  rw [hr]
  have HX:=Lib.hid hx; have HF:=Lib.hid hf
  clear hx hf hp hr
  go_enter Tryz.func57,Tryz.ntmps57
  go_wp2_with (go_at_call 96; refine (EF b o n c j q x _ hn HQ.out hj HX.out HF.out).mono ?_; rintro e w' ⟨rfl,rfl⟩)
  go_ret
  exact⟨dM (by simp),rfl⟩
 ·have hr:has n q x=false:=decide_eq_false hp
  rw [hr]
  have HP:=Lib.hid hp
  clear hp hr
  go_enter Tryz.func57,Tryz.ntmps57
  go_wp2_with (go_at_call 96; refine (FJ b o n c q x _ hn HQ.out (fun i hi e=>HP.out ⟨i,hi,e⟩)).mono ?_; rintro e w' ⟨rfl,rfl⟩)
  go_ret
  exact⟨dM (by simp),rfl⟩
theorem Eh (c:UInt8):has 4 (fun i=>(([32,9,13,10]:List Int).getD i 0)) c.toNat=dQ c:=by
 unfold has dQ
 rw [Bool.eq_iff_iff]
 simp only [decide_eq_true_eq,Bool.or_eq_true,beq_iff_eq,← UInt8.toNat_inj]
 constructor
 ·rintro ⟨i,hi,h⟩
  match i,hi with
  | 0,_=>simp at h; simp; omega
  | 1,_=>simp at h; simp; omega
  | 2,_=>simp at h; simp; omega
  | 3,_=>simp at h; simp; omega
 ·rintro (((h | h) | h) | h)
  ·exact⟨0,by omega,by simp at h; simp; omega⟩
  ·exact⟨1,by omega,by simp at h; simp; omega⟩
  ·exact⟨2,by omega,by simp at h; simp; omega⟩
  ·exact⟨3,by omega,by simp at h; simp; omega⟩
theorem sG (t:ByteArray) (hne:t.size≠0) (hmax:t.size≤1000000) (hdg:∀ c∈t.data.toList,aU c=true) (w:World) :
  Calls Tryz.prog 105 #[.string t,.int .i64 10,.int .i64 31] w fun e w'=>e=.returned (Lib.uintTupleM 208 2147483647 (Lib.parseUintM 2147483647 0 t.data.toList))∧w'=Lib.bytesWorld w 5 t:=by
 have hemp:t.toList.isEmpty=false:=by
  rw [← decide_eq_emptyBytes]
  exact decide_eq_false (fun h=>hne (by rw [h]; rfl))
 have hcv:=Lib.run_convert_string_bytes (P:=Tryz.prog) w 9 30 5 t (u:=.string) Tryz.underlying9 Tryz.underlying30 Tryz.underlying5
 have hB:∀ j,j<t.size→(Lib.bytesWorld w 5 t).cell? ⟨w.heap.size,j,none⟩=some (.int .u8 (t.data.toList.getD j 0).toNat):=fun j hj=>Lib.bytesWorld_cell w 5 t j hj
 obtain ⟨W1,hW1⟩:∃ W1,W1=Lib.bytesWorld w 5 t:=⟨_,rfl⟩
 rw [← hW1] at hcv hB ⊢
 clear hW1
 obtain ⟨bs,hL⟩:∃ bs,bs=t.data.toList:=⟨_,rfl⟩
 have hLn:bs.length=t.size:=by rw [hL,Lib.size_eq]
 rw [← hL] at hB hdg ⊢
 clear hL
 have HDG:=Lib.hid hdg; clear hdg
 have hmv:IntKind.u64.wrap (IntKind.u64.wrap 2147483648 - 1)=2147483647:=by
  rw [IntKind.wrap_u64,IntKind.wrap_u64]
  decide
 go_enter Tryz.func105,Tryz.ntmps105
 go_wp2
 go_loop [12,13,101] (fun vu vn vi=>∃ (k acc:Nat) (a:Int),vu=.bool false∧vn=.int .u64 a∧vi=.int .i64 k∧k≤t.size∧Hid (a=(acc:Int)∧acc≤2147483647∧Lib.parseUintM 2147483647 0 bs=Lib.parseUintM 2147483647 acc (bs.drop k)))
  (fun _ _ vi=>t.size - (intOf vi).toNat)
 case atStart=>exact⟨0,0,0,rfl,rfl,rfl,by omega,rfl,by omega,rfl⟩
 case round =>
  obtain ⟨k,acc,a,rfl,rfl,rfl,hk,hh⟩:=hrel
  obtain ⟨ha,hacc,hdec⟩:=hh.out
  clear hh
  have a0:0≤a:=by omega
  have a1:a≤2147483647:=by omega
  by_cases hkn:k<t.size
  ·have hc:=hB k hkn
   have hdrop:bs.drop k=bs[k]'(by omega) :: bs.drop (k+1):=List.drop_eq_getElem_cons (by omega)
   have hget:bs.getD k 0=bs[k]'(by omega):=by simp [List.getD,List.getElem?_eq_getElem (show k<bs.length by omega)]
   have hdd:aU (bs[k]'(by omega))=true:=HDG.out _ (List.getElem_mem _)
   rw [hdrop] at hdec
   rw [hget] at hc
   generalize bs[k]'(by omega)=c at hc hdec hdd
   have hc256:c.toNat<256:=c.toNat_lt
   clear hB hdrop hget
   rw [mM] at hdd
   simp only [Bool.and_eq_true,decide_eq_true_eq] at hdd
   obtain ⟨hd0',hd1'⟩:=hdd
   have hd0:48≤c.toNat:=by omega
   have hd1:c.toNat≤57:=by omega
   clear hd0' hd1'
   have hcut:¬ 1844674407370955162≤acc:=by omega
   by_cases hov:2147483647<acc*10+(c.toNat - 48)
   ·have hF:Lib.parseUintM 2147483647 acc (c :: bs.drop (k+1))=.range:=by simp [Lib.parseUintM,hd0,hd1,hcut,hov]
    rw [hF] at hdec
    have iov:2147483647<a*10+((c.toNat:Int) - 48):=by omega
    clear hcut hacc hF hov ha
    go_wp2
    go_ret2
    exact⟨rfl,rfl⟩
   ·have hF:Lib.parseUintM 2147483647 acc (c :: bs.drop (k+1))=Lib.parseUintM 2147483647 (acc*10+(c.toNat - 48)) (bs.drop (k+1)):=by simp [Lib.parseUintM,hd0,hd1,hcut,hov]
    have HN:Hid (a*10+((c.toNat:Int) - 48)=((acc*10+(c.toNat - 48):Nat):Int)∧acc*10+(c.toNat - 48)≤2147483647∧Lib.parseUintM 2147483647 0 bs=Lib.parseUintM 2147483647 (acc*10+(c.toNat - 48)) (bs.drop (k+1))):=Lib.hid ⟨by omega,by omega,hdec.trans hF⟩
    have iov:a*10+((c.toNat:Int) - 48)≤2147483647:=by omega
    clear hcut hacc hF hov hdec ha
    go_wp2
    refine⟨⟨k+1,acc*10+(c.toNat - 48),a*10+((c.toNat:Int) - 48),rfl,(by first | rfl | (congr 1; omega)),(by first | rfl | (congr 1; omega)),by omega,HN⟩,by simp [intOf]; omega⟩
  ·have hkk:k=t.size:=by omega
   subst hkk
   have hF:Lib.parseUintM 2147483647 acc (bs.drop t.size)=.ok acc:=by rw [List.drop_eq_nil_of_le (by omega)]; rfl
   rw [hF] at hdec
   subst ha
   clear hacc hF a0 a1
   go_wp2
   go_ret2
   exact⟨rfl,rfl⟩
end Go.Proofs.YtkkeocnnecegbaaGreatDoor
