/- Joint text: PwS, More, Names, Blanks, Spelled. By an AI agent. -/
import Derived.Test.YtkkeocnnecegbaaGreatDoorQ14
import Derived.Deep.RegionLaw
import Derived.Test.YtkkeocnnecegbaaGreatDoorQ04
import Derived.Test.YtkkeocnnecegbaaGreatDoorQ05
set_option linter.all false
set_option maxRecDepth 100000
set_option maxHeartbeats 64000000
namespace Go.Proofs.YtkkeocnnecegbaaGreatDoor
open Go.RowKit
theorem su:(Tryz.prog.info? 43).map (fun i=>(i.zero,i.size,i.bytes))=some (some (.agg #[.int .u8 0,.string ⟨#[]⟩,.int .i64 0,.int .i64 0,.slice none 0 0]),5,64):=by kernel_rfl
theorem info3:(Tryz.prog.info? 3).map (fun i=>(i.zero,i.size,i.bytes))=some (some (.int .i64 0),1,8):=by kernel_rfl
abbrev NV:=vY×Value
def mR (m:NV):List Value:=[.int .u8 m.1.kind,.string ⟨m.1.text.toArray⟩,.int .i64 m.1.n,.int .i64 m.1.at',m.2]
def fu (l:List NV):List Value:=l.flatMap mR
theorem vT (a b:List NV):fu (a ++ b)=fu a ++ fu b:=by simp [fu]
theorem Bo (m:NV):fu [m]=mR m:=by simp [fu]
def oH (l:List Nat):List Value:=l.map (fun k:Nat=>.int .i64 (k:Int))
structure gQ (w:World) (TT B:Nat) (v:Value) (l:List NV):Prop where
 lt:TT<B
 top:B≤w.heap.size
 blk:Blk w TT 24 #[v]
 row:w.ownsRow B 43 5 v l.length (fu l)
 kids:∀ m∈l,w.ownsRow B 3 1 m.2 m.1.kids.length (oH m.1.kids)
theorem jy {w:World} {B e size n g:Nat} {v:Value} {xs:List Value} (h:w.ownsRow B e size v n xs) (hg:v.ownBlock=some g):∃ cur,w.heap[g]? = some (.cells cur e (0,0)):=by
 rcases h.2 with ⟨rfl,_⟩ | ⟨g',cap,cur,rfl,hb,hgg,_⟩
 ·simp [Value.ownBlock] at hg
 ·have:g'=g:=Option.some.inj (show some g'=some g from hg)
  subst this; exact⟨cur,hgg⟩
theorem kU {w:World} {B B' e e' size size' n n' g:Nat} {v v':Value} {xs xs':List Value} (h:w.ownsRow B e size v n xs) (h':w.ownsRow B' e' size' v' n' xs') (he:e≠e') (hg:v.ownBlock=some g):v'.ownBlock≠some g:=by
 intro hg'
 obtain ⟨c,h1⟩:=jy h hg
 obtain ⟨c',h2⟩:=jy h' hg'
 rw [h1] at h2
 injection h2 with h2
 injection h2 with _ h2 _
 exact he h2
theorem Jh {w:World} {B e size n cap g:Nat} {xs:List Value} (h:w.ownsRow B e size (.slice (some ⟨g,0,none⟩) n cap) n xs) (j:Nat) (u:Value):(w.setCell ⟨g,j,none⟩ u).ownsRow B e size (.slice (some ⟨g,0,none⟩) n cap) n (xs.set j u):=by
 refine⟨by rw [List.length_set]; exact h.1,?_⟩
 rcases h.2 with ⟨h',_⟩ | ⟨g',cap',cur,h',hb,hg,hn,hm,hs,ht⟩
 ·simp at h'
 ·simp only [Value.slice.injEq,Option.some.injEq,Addr.mk.injEq,and_true,true_and] at h'
  obtain ⟨rfl,rfl⟩:=h'
  refine .inr ⟨g,cap,cur.setIfInBounds j u,rfl,hb,Blk.put hg j u,hn,hm,by simp [hs],?_⟩
  rw [Array.toList_setIfInBounds,← ht,List.take_set]
theorem rM:∀ (l:List NV) (r:List NV) (m:NV) (kv:Value) (ks:List Nat),(fu (l ++ m :: r)).set (l.length*5+4) kv=fu (l ++ (⟨m.1.kind,m.1.text,m.1.n,m.1.at',ks⟩,kv) :: r)
 | [],r,m,kv,ks=>by simp [fu,mR]
 | x :: l,r,m,kv,ks=>by
  have ih:=rM l r m kv ks
  simp only [fu,List.cons_append,List.flatMap_cons] at ih ⊢
  rw [List.length_cons,show (l.length+1)*5+4=(mR x).length+(l.length*5+4) by simp [mR]; omega]
  rw [List.set_append_right _ _ (by omega),Nat.add_sub_cancel_left,ih]
structure FrT (w w':World) (TT:Nat) (v:Value):Prop where
 os:w'.os=w.os
 tape:w'.tape=w.tape
 output:w'.output=w.output
 size:w.heap.size≤w'.heap.size
 block:∀ j,j<w.heap.size→j≠TT→v.ownBlock≠some j→w'.heap[j]? = w.heap[j]?
theorem FrT.refl (w:World) (TT:Nat) (v:Value):FrT w w TT v:=⟨rfl,rfl,rfl,Nat.le_refl _,fun _ _ _ _=>rfl⟩
theorem FrT.trans {a b c:World} {TT:Nat} {v v':Value} (h:FrT a b TT v) (k:FrT b c TT v') (hv:∀ q,v'.ownBlock=some q→v.ownBlock=some q∨a.heap.size≤q):FrT a c TT v :=
 ⟨k.os.trans h.os,k.tape.trans h.tape,k.output.trans h.output,Nat.le_trans h.size k.size,fun j hj ht hn=>(k.block j (by have:=h.size; omega) ht (fun e=>by rcases hv j e with h | h; exact hn h; omega)).trans (h.block j hj ht hn)⟩
theorem FrT.below {a b c:World} {TT:Nat} {v:Value} (h:FrT a b TT v) (k:Below a.heap.size b c):FrT a c TT v :=
 ⟨k.os.trans h.os,k.tape.trans h.tape,k.output.trans h.output,Nat.le_trans h.size k.size,fun j hj ht hn=>(k.block j hj).trans (h.block j hj ht hn)⟩
theorem FrT.grown {a b c:World} {TT:Nat} {v:Value} {row:Option Nat} (h:FrT a b TT v) (k:b.grownBy c row) (hr:∀ q,row=some q→v.ownBlock=some q∨a.heap.size≤q):FrT a c TT v :=
 ⟨k.os.trans h.os,k.tape.trans h.tape,k.output.trans h.output,Nat.le_trans h.size k.size,fun j hj ht hn=>(k.block j (by have:=h.size; omega) (fun e=>by rcases hr j e.symm with h | h; exact hn h; omega)).trans (h.block j hj ht hn)⟩
theorem FrT.set {a b:World} {TT:Nat} {v:Value} (h:FrT a b TT v) {p:Addr} (hp:p.block=TT∨v.ownBlock=some p.block∨a.heap.size≤p.block) (u:Value):FrT a (b.setCell p u) TT v :=
 ⟨h.os,h.tape,h.output,by have:=h.size; simpa [World.setCell] using this,fun j hj ht hn=>(Below.heap_setCell _ _ _ _ (by rcases hp with e | e | e; omega; intro he; exact hn (he ▸ e); omega)).trans (h.block j hj ht hn)⟩
theorem gQ.keep {w w':World} {TT B:Nat} {v:Value} {l:List NV} (h:gQ w TT B v l) (hs:w.heap.size≤w'.heap.size) (hT:w'.heap[TT]? = w.heap[TT]?) (hv:∀ q,v.ownBlock=some q→w'.heap[q]? = w.heap[q]?) (hk:∀ m∈l,∀ q,m.2.ownBlock=some q→w'.heap[q]? = w.heap[q]?):gQ w' TT B v l :=
 ⟨h.lt,Nat.le_trans h.top hs,hT.trans h.blk,dG h.row hv,fun m hm=>dG (h.kids m hm) (hk m hm)⟩
theorem gQ.alloc {w:World} {TT B:Nat} {v:Value} {l:List NV} (h:gQ w TT B v l) (o:Obj):gQ (w.alloc o) TT B v l :=
 h.keep (by simp) (Below.heap_alloc _ _ _ h.blk.lt) (fun q e=>Below.heap_alloc _ _ _ (h.row.lt q e).2) (fun m hm q e=>Below.heap_alloc _ _ _ ((h.kids m hm).lt q e).2)
theorem KidsAt.get {w:World} {F:Nat→Prop}:∀ {xs:List Item} {ps:List Nat},KidsAt w F ps xs→∀ i (hi:i<xs.length),∃ p,ps[i]? = some p∧dx w F p xs[i]
 | [],_,_,i,hi=>by simp at hi
 | x :: xs,[],h,i,hi=>by unfold KidsAt at h; exact h.elim
 | x :: xs,p :: ps,h,i,hi=>by
  unfold KidsAt at h
  cases i with
  | zero=>exact⟨p,rfl,h.1⟩
  | succ i =>
   obtain ⟨q,h1,h2⟩:=h.2.get i (by simpa using hi)
   exact⟨q,by simpa using h1,h2⟩
theorem take_one {α:Type} (l:List α) (i:Nat) (h:i<l.length):l.take (i+1)=l.take i ++ [l[i]]:=by
 rw [List.take_add_one,List.getElem?_eq_getElem h]; rfl
theorem pM (ks:List Item) (o i:Nat) (hi:i≤ks.length):(offs o ks).take i=offs o (ks.take i):=by
 have h:=nC (ks.take i) (ks.drop i) o
 rw [List.take_append_drop] at h
 rw [h,List.take_left' (by rw [aL,List.length_take]; omega)]
theorem vC (ks:List Item) (o i:Nat) (h:i<ks.length):(offs o ks).take (i+1)=(offs o ks).take i ++ [o+sizeL (ks.take i)]:=by
 rw [pM ks o (i+1) (by omega),pM ks o i (by omega),take_one ks i h,nC]
 rfl
theorem AQ (ks:List Item) (o i:Nat) (h:i<ks.length):eQ o (ks.take (i+1))=eQ o (ks.take i) ++ flat (o+sizeL (ks.take i)) ks[i]:=by
 rw [take_one ks i h,pW]
 simp [eQ]
theorem oh (ks:List Item) (i:Nat) (h:i<ks.length):sizeL (ks.take i)+sizeI ks[i]≤sizeL ks:=by
 have e:ks=ks.take i ++ (ks[i] :: ks.drop (i+1)):=by rw [← List.drop_eq_getElem_cons h,List.take_append_drop]
 have:=congrArg sizeL e
 rw [iY] at this
 simp only [sizeL] at this
 omega
theorem jZ (ks:List Item):ks.length≤sizeL ks:=by
 induction ks with
 | nil=>simp
 | cons x r ih=>have:=aW x; simp only [List.length_cons,sizeL]; omega
theorem gQ.grown {w w':World} {TT B:Nat} {v:Value} {l:List NV} {row:Option Nat} (h:gQ w TT B v l) (hg:w.grownBy w' row) (hT:row≠some TT) (hv:∀ q,v.ownBlock=some q→row≠some q) (hk:∀ m∈l,∀ q,m.2.ownBlock=some q→row≠some q):gQ w' TT B v l :=
 h.keep hg.size (hg.block TT h.blk.lt (Ne.symm hT)) (fun q e=>hg.block q (h.row.lt q e).2 (Ne.symm (hv q e))) (fun m hm q e=>hg.block q ((h.kids m hm).lt q e).2 (Ne.symm (hk m hm q e)))
theorem uB:∀ (l:List NV) (r:List NV) (m:NV),(fu (l ++ m :: r))[l.length*5+4]? = some m.2
 | [],r,m=>by simp [fu,mR]
 | x :: l,r,m=>by
  have ih:=uB l r m
  simp only [fu,List.cons_append,List.flatMap_cons] at ih ⊢
  rw [List.length_cons,show (l.length+1)*5+4=(mR x).length+(l.length*5+4) by simp [mR]; omega]
  rw [List.getElem?_append_right (by omega),Nat.add_sub_cancel_left,ih]
def qm (w:World) (TT B:Nat) (v:Value) (l:List NV) (x:Item) (e:Ending) (w':World):Prop :=
 e=.returned (.int .i64 (l.length:Nat))∧FrT w w' TT v∧∃ v' l2,gQ w' TT B v' (l ++ l2)∧l2.map (·.1)=flat l.length x∧(∀ q,v'.ownBlock=some q→v.ownBlock=some q∨w.heap.size≤q)∧(∀ m∈l2,∀ q,m.2.ownBlock=some q→w.heap.size≤q)
theorem Dl (x:Item) (ih:∀ y,sizeI y<sizeI x→∀ TT X B v l w,gQ w TT B v l→dx w (fun j=>TT<j∧j<B) X y→l.length+sizeI y≤200000→Calls Tryz.prog 56 #[.pointer (some ⟨X,0,none⟩),.pointer (some ⟨TT,0,none⟩)] w (qm w TT B v l y))
  (TT X B:Nat) (v:Value) (l:List NV) (w:World) (hT:gQ w TT B v l) (hx:dx w (fun j=>TT<j∧j<B) X x) (hl:l.length+sizeI x≤200000) :
  Calls Tryz.prog 56 #[.pointer (some ⟨X,0,none⟩),.pointer (some ⟨TT,0,none⟩)] w (qm w TT B v l x):=by
 obtain ⟨k,t,n,a,ks⟩:=x
 obtain ⟨⟨hXT,hXB⟩,kv,ps,hxb,⟨b0,hrow⟩,hkF,hkids⟩:=hx
 obtain ⟨i0,hi0,hz0,hz1,hz2⟩:=info_parts su
 obtain ⟨j0,hj0,hy0,hy1,hy2⟩:=info_parts info3
 obtain ⟨A,cc,rfl⟩:=bJ hT.row
 obtain ⟨A2,c2,rfl⟩:=bJ hrow
 have c0:w.cell? ⟨TT,0,none⟩=some (.slice A l.length cc):=hT.blk.cell 0
 have x0:w.cell? ⟨X,0,none⟩=some (.int .u8 k):=hxb.cell 0
 have x1:w.cell? ⟨X,1,none⟩=some (.string ⟨t.toArray⟩):=hxb.cell 1
 have x2:w.cell? ⟨X,2,none⟩=some (.int .i64 n):=hxb.cell 2
 have x3:w.cell? ⟨X,3,none⟩=some (.int .i64 a):=hxb.cell 3
 have x4:w.cell? ⟨X,4,none⟩=some (.slice none 0 0):=hxb.cell 4
 have lX:=hxb.lt
 have lT:=hT.blk.lt
 have HT:=Lib.hid hT; have HX:=Lib.hid hxb; have HROW:=Lib.hid hrow; have HKF:=Lib.hid hkF; have HKD:=Lib.hid hkids; have IH:=Lib.hid ih
 have hB:=hT.top
 have hTB:=hT.lt
 have hsz:l.length+(1+sizeL ks)≤200000:=hl
 have nTX:¬ X=TT:=by omega
 clear hT hxb hrow hkF hkids ih hl
 go_enter Tryz.func56,Tryz.ntmps56
 go_wp2_with fail
 go_region_law ((refine step_append_lies _ (by rfl) _ _ _ (by rfl) B 43 i0 _ 5 64 Tryz.underlying22 hi0 hz0 hz1 hz2 rfl (by omega) (.slice A l.length cc) l.length (fu l) (by rfl) ((HT.out.row.alloc _).drew) ⟨w.heap.size,0,none⟩ 1 1 [.int .u8 k,.string ⟨t.toArray⟩,.int .i64 n,.int .i64 a,.slice none 0 0] (by rfl) (by rfl) (World.news_of_block (cs:=#[.int .u8 k,.string ⟨t.toArray⟩,.int .i64 n,.int .i64 a,.slice none 0 0]) (t:=43) (fr:=(0,0)) (heap_alloc_new w _)) (by simp [Value.oneCell']) (by omega) (by unfold maxLen; omega) (by omega) (by simp; omega) (w.heap.size+1) (by simp) ?_; intro gg cap w1 hown1 hgrow hat hlt; have tb:Blk w1 TT 24 _:=(hgrow.block TT (by simp; omega) (fun e=>by have:=(HT.out.row.lt TT e.symm).1; omega)).trans ((HT.out.blk.alloc (.cells #[.int .u8 k,.string ⟨t.toArray⟩,.int .i64 n,.int .i64 a,.slice none 0 0] 43))); have d0:w1.cell? ⟨TT,0,none⟩=some (.slice A l.length cc):=tb.cell 0; have d1:=tb.free 0; have HTB:=Lib.hid tb; have HOWN:=Lib.hid hown1; have HG:=Lib.hid hgrow; have HAT:=Lib.hid hat; clear tb hown1 hgrow hat))
 all_goals
  have hrowlt:=HT.out.row.lt
  have V1:Hid (∀ q,(Value.slice (some ⟨gg,0,none⟩) (l.length+1) cap).ownBlock=some q→(Value.slice A l.length cc).ownBlock=some q∨w.heap.size≤q):=Lib.hid (fun q e=>by
   have hq:gg=q:=Option.some.inj (show some gg=some q from e)
   subst hq
   rcases HAT.out with h | h
   ·exact Or.inl h
   ·exact Or.inr (by omega))
  have hggT:gg≠TT:=by
   rcases HAT.out with h | h
   ·have:=hrowlt gg h; omega
   ·omega
  have F1:Hid (FrT w (w1.setCell ⟨TT,0,none⟩ (.slice (some ⟨gg,0,none⟩) (l.length+1) cap)) TT (.slice A l.length cc)):=Lib.hid ((((FrT.refl w TT (.slice A l.length cc)).below (((Below.refl w.heap.size w).alloc (Nat.le_refl _) (.cells #[.int .u8 k,.string ⟨t.toArray⟩,.int .i64 n,.int .i64 a,.slice none 0 0] 43)).drew)).grown HG.out (fun q e=>Or.inl e)).set (p:=⟨TT,0,none⟩) (Or.inl rfl) _)
  have T1:Hid (gQ (w1.setCell ⟨TT,0,none⟩ (.slice (some ⟨gg,0,none⟩) (l.length+1) cap)) TT B (.slice (some ⟨gg,0,none⟩) (l.length+1) cap) (l ++ [(⟨k,t,n,a,[]⟩,.slice none 0 0)])):=Lib.hid (by
   refine⟨hTB,Nat.le_trans hB F1.out.size,HTB.out.put 0 _,?_,?_⟩
   ·rw [List.length_append,vT,Bo]
    exact dG HOWN.out (fun q e=>Below.heap_setCell _ _ _ _ (by
     have hq:gg=q:=Option.some.inj (show some gg=some q from e)
     show q≠TT; omega))
   ·intro m hm
    rcases List.mem_append.1 hm with hm | hm
    ·have hk:=HT.out.kids m hm
     exact dG hk (fun q e=>F1.out.block q (hk.lt q e).2 (by have:=(hk.lt q e).1; omega) (kU hk HT.out.row (by decide) e))
    ·obtain rfl:=List.mem_singleton.1 hm
     exact World.ownsRow_nil _ _ _ _)
  clear d0 d1 HTB HOWN HG HAT
  generalize w1.setCell ⟨TT,0,none⟩ (.slice (some ⟨gg,0,none⟩) (l.length+1) cap)=W1 at *
  have hold:∀ j,TT<j→j<B→W1.heap[j]? = w.heap[j]?:=fun j h1 h2=>F1.out.block j (by omega) (by omega) (fun e=>by have:=(hrowlt j e).1; omega)
  have y5:W1.cell? ⟨X,5,none⟩=some (.slice A2 ks.length c2):=(Blk.cell (show Blk W1 X 160 _ from (hold X hXT hXB).trans HX.out) 5)
  have HOLD:=Lib.hid hold
  have HRL:=Lib.hid hrowlt
  clear hold hrowlt c0 x0 x1 x2 x3 x4
  go_wp2_with fail
  go_loopw [6,32] (fun vk vi wr=>∃ (i:Nat) (vr:Value) (l2:List NV),i≤ks.length∧vi=.int .i64 i∧Hid (wr.ownsRow B 3 1 vk i (oH ((offs (l.length+1) ks).take i)))∧Hid (gQ wr TT B vr (l ++ [(⟨k,t,n,a,[]⟩,.slice none 0 0)] ++ l2)∧l2.map (·.1)=eQ (l.length+1) (ks.take i))∧Hid (FrT w wr TT (.slice A l.length cc))∧Hid ((∀ q,vr.ownBlock=some q→(Value.slice A l.length cc).ownBlock=some q∨w.heap.size≤q)∧(∀ m∈l2,∀ q,m.2.ownBlock=some q→w.heap.size≤q)∧(∀ q,vk.ownBlock=some q→w.heap.size≤q∧∀ m∈l2,m.2.ownBlock≠some q))) (fun _ vi _=>ks.length - (intOf vi).toNat)
  case atStart=>exact⟨0,_,[],Nat.zero_le _,rfl,Lib.hid (World.ownsRow_nil _ _ _ _),Lib.hid ⟨by rw [List.append_nil]; exact T1.out,rfl⟩,F1,Lib.hid ⟨V1.out,fun m hm=>by simp at hm,fun q e=>by simp [Value.ownBlock] at e⟩⟩
  case round =>
   obtain ⟨i,vr,l2,hi,rfl,HVK,HTW,HF,HS⟩:=hrel
   by_cases hlt:i<ks.length
   ·have hsl:=jZ ks
    obtain ⟨q0,cap0,hA2,_,_⟩:=HROW.out.form (by omega)
    have hA2':A2=some ⟨q0,0,none⟩:=by injection hA2
    subst hA2'
    obtain ⟨p,hp,hip⟩:=HKD.out.get i hlt
    have hq0:=HKF.out q0 rfl
    have hcell:wr.cell? ⟨q0,i,none⟩=some (.pointer (some ⟨p,0,none⟩)):=by
     have h1:=HROW.out.cellAt i (by omega)
     have h2:(ptrs ps)[i]? = some (.pointer (some ⟨p,0,none⟩)):=by unfold ptrs; rw [List.getElem?_map,hp]; rfl
     rw [h2] at h1
     exact (World.cell?_of_block (w:=w) (HF.out.block q0 (by omega) (by omega) (fun e=>by have:=(HRL.out q0 e).1; omega))).trans h1
    have HIP:=Lib.hid (hip.keep (w':=wr) (fun j hj hl=>HF.out.block j hl (by omega) (fun e=>by have:=(HRL.out j e).1; omega)))
    have hli:(i:Int)<(ks.length:Int):=by omega
    have hli0:(0:Int)≤(i:Int):=by omega
    have hst:=oh ks i hlt
    have hl2:l2.length=sizeL (ks.take i):=by
     have:=congrArg List.length HTW.out.2
     rw [List.length_map,l8] at this
     exact this
    have HL2:=Lib.hid hl2
    clear hip hA2 hp hl2
    go_wp2_with fail
    refine (IH.out ks[i] (by simp only [sizeI]; omega) TT p B vr _ wr HTW.out.1 HIP.out (by have:=HL2.out; simp only [List.length_append,List.length_singleton]; omega)).mono ?_
    rintro e w4 ⟨rfl,hf4,v4,l3,ht4,hl3,hv4,hr4⟩
    have hidx:((l ++ [((⟨k,t,n,a,[]⟩,.slice none 0 0):NV)] ++ l2).length:Nat)=l.length+1+sizeL (ks.take i):=by have:=HL2.out; simp only [List.length_append,List.length_singleton]; omega
    rw [hidx] at hl3 ⊢
    have HF4:=Lib.hid (HF.out.trans hf4 HS.out.1)
    have hVK4:=dG (w':=w4) HVK.out (fun q e=>hf4.block q (HVK.out.lt q e).2 (by have:=(HVK.out.lt q e).1; omega) (kU HVK.out HTW.out.1.row (by decide) e))
    have HVK4:=Lib.hid (hVK4.alloc (.cells #[.int .i64 ((l.length+1+sizeL (ks.take i):Nat):Int)] 3))
    have HT4:=Lib.hid (ht4.alloc (.cells #[.int .i64 ((l.length+1+sizeL (ks.take i):Nat):Int)] 3))
    have HL3:=Lib.hid hl3; have HV4:=Lib.hid hv4; have HR4:=Lib.hid hr4
    have hs4:wr.heap.size≤w4.heap.size:=hf4.size
    have hsw:w.heap.size≤wr.heap.size:=HF.out.size
    clear hf4 hVK4 ht4 hl3 hv4 hr4 hidx hcell
    generalize hidx:l.length+1+sizeL (ks.take i)=idx at *
    have HIDX:=Lib.hid hidx
    clear hidx
    go_wp2_with (at_builtin; refine wpList_append_lies _ rfl _ _ 41 rfl B 3 j0 (.int .i64 0) 1 8 Tryz.underlying41 hj0 hy0 hy1 hy2 rfl (by decide) u6 i _ rfl HVK4.out ⟨w4.heap.size,0,none⟩ 1 1 [.int .i64 ((idx:Nat):Int)] rfl rfl (World.news_of_block (cs:=#[.int .i64 ((idx:Nat):Int)]) (t:=3) (fr:=(0,0)) (heap_alloc_new w4 _)) (by simp [Value.oneCell']) (by omega) (by unfold maxLen; omega) (by omega) (by simp; omega) _ rfl ?_)
    intro g5 cap5 w5 hown5 hgrow5 hat5 hlt5
    have hVB:=HVK4.out.lt
    have HOWN5:=Lib.hid hown5; have HG5:=Lib.hid hgrow5; have HAT5:=Lib.hid hat5; have HVB:=Lib.hid hVB
    clear hown5 hgrow5 hat5 hVB
    go_wp2_with fail
    go_roundw
    case rel =>
     have hLt:=HS.out.2.2
     refine⟨i+1,v4,l2 ++ l3,by omega,by go_num,Lib.hid ?_,Lib.hid ⟨?_,?_⟩,Lib.hid ?_,Lib.hid ⟨?_,?_,?_⟩⟩
     ·rw [vC ks _ i hlt,HIDX.out]
      have:oH ((offs (l.length+1) ks).take i ++ [idx])=oH ((offs (l.length+1) ks).take i) ++ [.int .i64 (idx:Int)]:=by simp [oH]
      rw [this]; exact HOWN5.out
     ·rw [← List.append_assoc]
      refine HT4.out.grown HG5.out (fun e=>by have:=(HVB.out TT e).1; omega) (fun q e=>fun e'=>kU HT4.out.row HVK4.out (by decide) e e') (fun m hm q e e'=>?_)
      have hq:=HVB.out q e'
      rcases List.mem_append.1 hm with hm | hm
      ·rcases List.mem_append.1 hm with hm | hm
       ·rcases List.mem_append.1 hm with hm | hm
        ·have h1:=((HT.out.kids m hm).lt q e).2
         have h2:=(hLt q e').1
         omega
        ·obtain rfl:=List.mem_singleton.1 hm
         simp [Value.ownBlock] at e
       ·exact (hLt q e').2 m hm e
      ·have h1:=HR4.out m hm q e
       have h2:=(HVK.out.lt q e').2
       omega
     ·rw [List.map_append,HTW.out.2,HL3.out,AQ ks _ i hlt,HIDX.out]
     ·exact ((HF4.out.below ((Below.refl w.heap.size w4).alloc (by omega) _))).grown HG5.out (fun q e=>Or.inr (hLt q e).1)
     ·intro q e
      rcases HV4.out q e with h | h
      ·exact HS.out.1 q h
      ·exact Or.inr (by omega)
     ·intro m hm q e
      rcases List.mem_append.1 hm with hm | hm
      ·exact HS.out.2.1 m hm q e
      ·have:=HR4.out m hm q e; omega
     ·intro q e
      have hq:g5=q:=Option.some.inj (show some g5=some q from e)
      subst hq
      rcases HAT5.out with h | h
      ·refine⟨(hLt g5 h).1,fun m hm e2=>?_⟩
       rcases List.mem_append.1 hm with hm | hm
       ·exact (hLt g5 h).2 m hm e2
       ·have h1:=HR4.out m hm g5 e2
        have h2:=(HVK.out.lt g5 h).2
        omega
      ·have hz:(w4.alloc (.cells #[.int .i64 ((idx:Nat):Int)] 3)).heap.size=w4.heap.size+1:=by simp
       refine⟨by omega,fun m hm e2=>?_⟩
       have:=((HT4.out.kids m (by rw [List.append_assoc]; exact List.mem_append_right _ hm)).lt g5 e2).2
       omega
    case measure=>simp [intOf]; omega
   ·obtain rfl:i=ks.length:=by omega
    obtain ⟨A6,c6,rfl⟩:=bJ HVK.out
    obtain ⟨g,cp,rfl,hgB,hgl⟩:=HTW.out.1.row.form (by simp only [List.length_append,List.length_singleton]; omega)
    obtain ⟨N,hN⟩:∃ N,(l ++ [((⟨k,t,n,a,[]⟩,.slice none 0 0):NV)] ++ l2).length=N:=⟨_,rfl⟩
    have hNl:l.length<N:=by rw [← hN]; simp only [List.length_append,List.length_singleton]; omega
    have HN:=Lib.hid hN
    have eapp:l ++ [((⟨k,t,n,a,[]⟩,.slice none 0 0):NV)] ++ l2=l ++ ((⟨k,t,n,a,[]⟩,.slice none 0 0):NV) :: l2:=by simp
    have c0:wr.cell? ⟨TT,0,none⟩=some (.slice (some ⟨g,0,none⟩) N cp):=by rw [← hN]; exact HTW.out.1.blk.cell 0
    have hrow:=HTW.out.1.row
    obtain ⟨cur,hcur⟩:=jy hrow (show _=some g from rfl)
    have c1:wr.cell? ⟨g,l.length*5+4,none⟩=some (.slice none 0 0):=by
     rw [hrow.cellAt _ (by rw [hN]; omega),eapp,uB]
    have c2:wr.frozen? ⟨g,l.length*5+4,none⟩=false:=Blk.free hcur _
    have hi0:(0:Int)≤(l.length:Int):=by omega
    have hi1:(l.length:Int)<(N:Int):=by omega
    have hfull:(offs (l.length+1) ks).take ks.length=offs (l.length+1) ks:=List.take_of_length_le (by rw [aL]; omega)
    have hfull2:ks.take ks.length=ks:=List.take_length
    have HFU:=Lib.hid hfull; have HFU2:=Lib.hid hfull2; have HEA:=Lib.hid eapp; have HROW2:=Lib.hid hrow
    clear hN eapp hrow hcur hfull hfull2
    go_wp2_with fail
    go_ret
    have hvk:=HVK.out
    rw [HFU.out] at hvk
    have htw:=HTW.out
    rw [HFU2.out] at htw
    have hrow3:=Jh HROW2.out (l.length*5+4) (Value.slice A6 ks.length c6)
    rw [HEA.out,rM l l2 _ (Value.slice A6 ks.length c6) (offs (l.length+1) ks)] at hrow3
    refine⟨rfl,HF.out.set (p:=⟨g,l.length*5+4,none⟩) (by rcases HS.out.1 g rfl with h | h; exact Or.inr (Or.inl h); exact Or.inr (Or.inr h)) _,.slice (some ⟨g,0,none⟩) (l ++ ((⟨k,t,n,a,[]⟩,.slice none 0 0):NV) :: l2).length cp,(⟨k,t,n,a,offs (l.length+1) ks⟩,(Value.slice A6 ks.length c6)) :: l2,⟨hTB,?_,?_,?_,?_⟩,?_,?_,?_⟩
    ·have:=htw.1.top; simpa [World.setCell] using this
    ·have:=htw.1.blk
     rw [HEA.out] at this
     exact this.far (by omega) _ _
    ·have e:(l ++ ((⟨k,t,n,a,offs (l.length+1) ks⟩,(Value.slice A6 ks.length c6)):NV) :: l2).length=(l ++ ((⟨k,t,n,a,[]⟩,.slice none 0 0):NV) :: l2).length:=by simp
     rw [e]
     exact hrow3
    ·intro m hm
     have far:∀ q,q≠g→(wr.setCell ⟨g,l.length*5+4,none⟩ (Value.slice A6 ks.length c6)).heap[q]? = wr.heap[q]?:=fun q hq=>Below.heap_setCell _ _ _ _ hq
     have old:∀ m∈l ++ [((⟨k,t,n,a,[]⟩,.slice none 0 0):NV)] ++ l2,(wr.setCell ⟨g,l.length*5+4,none⟩ (Value.slice A6 ks.length c6)).ownsRow B 3 1 m.2 m.1.kids.length (oH m.1.kids):=fun m hm =>
      dG (htw.1.kids m hm) (fun q e=>far q (fun hq=>kU (htw.1.kids m hm) htw.1.row (by decide) e (by rw [hq]; rfl)))
     rcases List.mem_append.1 hm with hm | hm
     ·exact old m (by simp [hm])
     ·rcases List.mem_cons.1 hm with rfl | hm
      ·have:=dG (w':=wr.setCell ⟨g,l.length*5+4,none⟩ (Value.slice A6 ks.length c6)) hvk (fun q e=>far q (fun hq=>kU hvk htw.1.row (by decide) e (by rw [hq]; rfl)))
       show World.ownsRow _ B 3 1 (Value.slice A6 ks.length c6) (offs (l.length+1) ks).length _
       rw [aL]
       exact this
      ·exact old m (by simp [hm])
    ·simp only [List.map_cons,flat]
     rw [htw.2]
    ·intro q e
     exact HS.out.1 q e
    ·intro m hm q e
     rcases List.mem_cons.1 hm with rfl | hm
     ·exact (HS.out.2.2 q e).1
     ·exact HS.out.2.1 m hm q e
theorem FE (x:Item):∀ (TT X B:Nat) (v:Value) (l:List NV) (w:World),gQ w TT B v l→dx w (fun j=>TT<j∧j<B) X x→l.length+sizeI x≤200000→Calls Tryz.prog 56 #[.pointer (some ⟨X,0,none⟩),.pointer (some ⟨TT,0,none⟩)] w (qm w TT B v l x):=by
 have key:∀ N (x:Item),sizeI x≤N→∀ (TT X B:Nat) (v:Value) (l:List NV) (w:World),gQ w TT B v l→dx w (fun j=>TT<j∧j<B) X x→l.length+sizeI x≤200000→Calls Tryz.prog 56 #[.pointer (some ⟨X,0,none⟩),.pointer (some ⟨TT,0,none⟩)] w (qm w TT B v l x):=by
  intro N
  induction N with
  | zero=>intro x h; have:=aW x; omega
  | succ N ih=>intro x h TT X B v l w hT hx hl; exact Dl x (fun y hy=>ih y (by omega)) TT X B v l w hT hx hl
 exact key (sizeI x) x (Nat.le_refl _)
end Go.Proofs.YtkkeocnnecegbaaGreatDoor
namespace Go.Proofs.YtkkeocnnecegbaaGreatDoor
def mapOk {ε α β:Type} (f:α→β):Except ε α→Except ε β
 | .ok x=>.ok (f x)
 | .error e=>.error e
theorem ze (f:Nat) (r:List UInt8) (p:Nat) (acc:List Tok):lexFrom f r p acc=mapOk (acc ++ ·) (lexFrom f r p []):=by
 induction f generalizing r p acc with
 | zero=>simp [lexFrom,mapOk]
 | succ f ih =>
  cases r with
  | nil=>simp [lexFrom,mapOk]
  | cons c r =>
   simp only [lexFrom]
   split
   ·exact ih r (p+1) acc
   ·cases tokAt (c :: r) with
    | error e=>rfl
    | ok x =>
     obtain ⟨k,n,v⟩:=x
     simp only [List.nil_append]
     rw [ih _ _ (acc ++ _),ih _ _ [_]]
     cases lexFrom f ((c :: r).drop n) (p+n) [] <;> simp [mapOk]
theorem gB {r:List UInt8} {k n:Nat} {v:Int} (h:tokAt r=.ok (k,n,v)):0<n∧n≤r.length:=by
 cases r with
 | nil=>simp [tokAt] at h
 | cons c r =>
  unfold tokAt at h
  simp only at h
  split at h
  ·rename_i hl
   injection h with h; injection h with _ h; injection h with h _
   subst h
   exact⟨jL (by simp [hl]),kG _ _⟩
  ·split at h
   ·rename_i hd
    split at h
    ·injection h with h; injection h with _ h; injection h with h _
     subst h
     exact⟨jL hd,kG _ _⟩
    ·cases h
   ·split at h
    ·cases h
    ·rename_i hm
     injection h with h; injection h with _ h; injection h with h _
     subst h
     exact⟨Nat.pos_of_ne_zero hm,rE _⟩
theorem xE (f g:Nat) (r:List UInt8) (p:Nat) (acc:List Tok) (hf:r.length≤f) (hg:r.length≤g):lexFrom f r p acc=lexFrom g r p acc:=by
 induction f generalizing g r p acc with
 | zero =>
  have:r=[]:=List.eq_nil_of_length_eq_zero (by omega)
  subst this
  cases g <;> rfl
 | succ f ih =>
  cases r with
  | nil=>cases g <;> rfl
  | cons c r =>
   simp only [List.length_cons] at hf hg
   obtain ⟨g',rfl⟩:∃ g',g=g'+1:=⟨g - 1,by omega⟩
   simp only [lexFrom]
   split
   ·exact ih g' r _ _ (by omega) (by omega)
   ·cases ht:tokAt (c :: r) with
    | error e=>rfl
    | ok x =>
     obtain ⟨k,n,v⟩:=x
     have hl:=gB ht
     simp only [List.length_cons] at hl
     exact ih g' _ _ _ (by rw [List.length_drop,List.length_cons]; omega) (by rw [List.length_drop,List.length_cons]; omega)
def lx (r:List UInt8) (p:Nat):Except (Nat×Int) (List Tok):=lexFrom r.length r p []
theorem je (l:List UInt8):fZ l=lx l 0:=rfl
theorem j6 (p:Nat):lx [] p=.ok [⟨5,[],0,p⟩]:=rfl
theorem kV {c:UInt8} (h:dQ c=true) (r:List UInt8) (p:Nat):lx (c :: r) p=lx r (p+1):=by
 unfold lx; rw [List.length_cons,lexFrom,if_pos h]
theorem jW {c:UInt8} {r:List UInt8} (h:dQ c=false) {k n:Nat} {v:Int} (ht:tokAt (c :: r)=.ok (k,n,v)) (p:Nat):lx (c :: r) p=mapOk (⟨k,(c :: r).take n,v,p⟩ :: ·) (lx ((c :: r).drop n) (p+n)):=by
 have hl:=gB ht
 unfold lx
 rw [List.length_cons,lexFrom,if_neg (by simp [h]),ht]
 simp only [List.nil_append]
 rw [ze,xE _ ((c :: r).drop n).length _ _ _ (by rw [List.length_drop,List.length_cons]; omega) (Nat.le_refl _)]
 rfl
theorem kX {c:UInt8} {r:List UInt8} (h:dQ c=false) {e:Int} (ht:tokAt (c :: r)=.error e) (p:Nat):lx (c :: r) p=.error (p,e):=by
 unfold lx
 rw [List.length_cons,lexFrom,if_neg (by simp [h]),ht]
theorem mi {P:List UInt8→Nat→Prop} (h0:∀ p,P [] p) (hb:∀ c r p,dQ c=true→P r (p+1)→P (c :: r) p)
  (he:∀ c r p e,dQ c=false→tokAt (c :: r)=.error e→P (c :: r) p)
  (ht:∀ c r p k n v,dQ c=false→tokAt (c :: r)=.ok (k,n,v)→P ((c :: r).drop n) (p+n)→P (c :: r) p):∀ l p,P l p:=by
 have:∀ N l p,l.length≤N→P l p:=by
  intro N
  induction N with
  | zero=>intro l p h; have:l=[]:=List.eq_nil_of_length_eq_zero (by omega); subst this; exact h0 p
  | succ N ih =>
   intro l p h
   cases l with
   | nil=>exact h0 p
   | cons c r =>
    simp only [List.length_cons] at h
    cases hbl:dQ c
    ·cases htk:tokAt (c :: r) with
     | error e=>exact he c r p e hbl htk
     | ok x =>
      obtain ⟨k,n,v⟩:=x
      have hl:=gB htk
      simp only [List.length_cons] at hl
      exact ht c r p k n v hbl htk (ih _ _ (by rw [List.length_drop,List.length_cons]; omega))
    ·exact hb c r p hbl (ih r (p+1) (by omega))
 exact fun l p=>this l.length l p (Nat.le_refl _)
theorem vF {p:UInt8→Bool} {b:UInt8} (hb:p b=false) (r y:List UInt8):aQ p (r ++ b :: y)=aQ p r:=by
 induction r with
 | nil=>rw [List.nil_append,lv hb]; rfl
 | cons c r ih =>
  unfold aQ at ih ⊢
  rw [List.cons_append,List.takeWhile_cons,List.takeWhile_cons]
  split
  ·rw [List.length_cons,List.length_cons,ih]
  ·rfl
theorem zN {b:UInt8} (h:dQ b=true):isLet b=false∧aU b=false∧∀ c,isMarkS [c,b]=false:=by
 unfold dQ at h
 simp only [Bool.or_eq_true,beq_iff_eq] at h
 rcases h with ((rfl | rfl) | rfl) | rfl <;> exact⟨by decide,by decide,fun c=>by simp [isMarkS,jk]⟩
theorem y8 {b:UInt8} (hb:dQ b=true) (c:UInt8) (r y:List UInt8):aV (c :: r ++ b :: y)=aV (c :: r):=by
 have h:=(zN hb).2.2 c
 cases r with
 | nil =>
  unfold aV
  simp only [List.cons_append,List.nil_append,List.take_succ_cons,List.take_zero,List.take_nil,h]
  by_cases hm:isMarkS [c]=true <;> simp [hm]
 | cons d r=>by_cases h1:isMarkS [c,d]=true <;> by_cases h2:isMarkS [c]=true <;> simp [aV,h1,h2]
theorem uO {b:UInt8} (hb:dQ b=true) (c:UInt8) (r y:List UInt8):tokAt (c :: r ++ b :: y)=tokAt (c :: r):=by
 obtain ⟨h1,h2,_⟩:=zN hb
 have hw:(fun c=>isLet c || aU c) b=false:=by simp [h1,h2]
 have m1:=vF (p:=fun c=>isLet c || aU c) hw (c :: r) y
 have m2:=vF h2 (c :: r) y
 have m3:=y8 hb c r y
 have k1:=List.take_append_of_le_length (l₂:=b :: y) (kG (fun c=>isLet c || aU c) (c :: r))
 have k2:=List.take_append_of_le_length (l₂:=b :: y) (kG aU (c :: r))
 rw [List.cons_append] at m1 m2 m3 k1 k2 ⊢
 simp only [tokAt,m1,m2,m3,k1,k2]
theorem KI {l:List UInt8} {p:Nat} {ts:List Tok} (h:lx l p=.ok ts):ts≠[]:=by
 have:∀ l p,∀ ts,lx l p=.ok ts→ts≠[]:=by
  refine mi (fun p ts h=>?_) (fun c r p hb ih ts h=>?_) (fun c r p e hb ht ts h=>?_) (fun c r p k n v hb ht ih ts h=>?_)
  ·rw [j6] at h; injection h with h; rw [← h]; exact List.cons_ne_nil _ _
  ·rw [kV hb] at h; exact ih ts h
  ·rw [kX hb ht] at h; cases h
  ·rw [jW hb ht] at h
   cases hx:lx ((c :: r).drop n) (p+n) with
   | error e=>rw [hx] at h; cases h
   | ok x=>rw [hx] at h; injection h with h; rw [← h]; exact List.cons_ne_nil _ _
 exact this l p ts h
theorem lx_more {b:UInt8} (hb:dQ b=true) (y a:List UInt8) (p:Nat):lx (a ++ b :: y) p=match lx a p with | .error e=>.error e | .ok ts=>mapOk (ts.dropLast ++ ·) (lx y (p+a.length+1)):=by
 refine mi (P:=fun a p=>lx (a ++ b :: y) p=match lx a p with | .error e=>.error e | .ok ts=>mapOk (ts.dropLast ++ ·) (lx y (p+a.length+1))) (fun p=>?_) (fun c r p hc ih=>?_) (fun c r p e hc ht=>?_) (fun c r p k n v hc ht ih=>?_) a p
 ·rw [List.nil_append,kV hb,j6]
  cases h:lx y (p+1) <;> simp [mapOk]
 ·simp only [List.cons_append,kV hc,ih,List.length_cons]
  have:p+1+r.length+1=p+(r.length+1)+1:=by omega
  rw [this]
 ·have h:=uO hb c r y
  rw [ht] at h
  simp only [kX hc ht]
  exact kX hc h p
 ·have h:=uO hb c r y
  rw [ht] at h
  have hl:=gB ht
  simp only [jW hc ht]
  have h2:(c :: r ++ b :: y).take n=(c :: r).take n:=List.take_append_of_le_length hl.2
  have h3:(c :: r ++ b :: y).drop n=(c :: r).drop n ++ b :: y:=List.drop_append_of_le_length hl.2
  rw [List.cons_append] at h h2 h3 ⊢
  rw [jW hc h,h2,h3,ih]
  have:p+n+((c :: r).drop n).length+1=p+(c :: r).length+1:=by rw [List.length_drop]; have:=hl.2; omega
  rw [this]
  cases h1:lx ((c :: r).drop n) (p+n) with
  | error e=>rfl
  | ok ts =>
   have hne:=KI h1
   simp only [mapOk]
   cases lx y (p+(c :: r).length+1) with
   | error e=>rfl
   | ok zs=>simp only [List.dropLast_cons_of_ne_nil hne,List.cons_append]
end Go.Proofs.YtkkeocnnecegbaaGreatDoor
namespace Go.Proofs.YtkkeocnnecegbaaGreatDoor
def isNameS (l:List UInt8):Bool:=match l with
 | []=>false
 | c :: r=>isLet c && !gZ (c :: r) && aQ (fun c=>isLet c || aU c) (c :: r) == (c :: r).length
end Go.Proofs.YtkkeocnnecegbaaGreatDoor
namespace Go.Proofs.YtkkeocnnecegbaaGreatDoor
theorem EM (p:UInt8→Bool) (l:List UInt8) (m:Nat):aQ p (l.take m)=min m (aQ p l):=by
 induction l generalizing m with
 | nil=>simp [aQ]
 | cons c r ih =>
  cases m with
  | zero=>simp [aQ]
  | succ m =>
   have:=ih m
   unfold aQ at this ⊢
   rw [List.take_succ_cons,List.takeWhile_cons,List.takeWhile_cons]
   split
   ·rw [List.length_cons,List.length_cons,this]; omega
   ·simp
theorem xI {l:List UInt8} {n m:Nat} (h:aV l=n) (h0:0<n) (hm:n≤m):aV (l.take m)=n:=by
 unfold aV at h ⊢
 rw [List.take_take,List.take_take,List.length_take]
 by_cases h2:2≤m
 ·rw [Nat.min_eq_left h2,Nat.min_eq_left (by omega:1≤m)]
  split at h
  ·rw [if_pos (by assumption)]; omega
  ·split at h
   ·rw [if_neg (by assumption),if_pos (by assumption)]; exact h
   ·omega
 ·obtain rfl:m=1:=by omega
  obtain rfl:n=1:=by omega
  rw [Nat.min_eq_right (by omega:1≤2),Nat.min_self]
  split at h
  ·have hl:l.length≤1:=by omega
   have e:l.take 1=l.take 2:=by rw [List.take_of_length_le hl,List.take_of_length_le (by omega)]
   rw [e,if_pos (by assumption)]; omega
  ·split at h
   ·rw [if_pos (by assumption)]
    have:l≠[]:=by
     rintro rfl
     rename_i h1
     simp [isMarkS,jk] at h1
    have:=List.length_pos_iff.2 this
    omega
   ·omega
theorem BI {c:UInt8} {r:List UInt8} {k n m:Nat} {v:Int} (h:tokAt (c :: r)=.ok (k,n,v)) (hm:n≤m):tokAt ((c :: r).take m)=.ok (k,n,v):=by
 have hl:=gB h
 obtain ⟨m',rfl⟩:∃ m',m=m'+1:=⟨m - 1,by omega⟩
 have tt:∀ j,j≤m'+1→(c :: r.take m').take j=(c :: r).take j:=fun j hj=>by
  rw [← List.take_succ_cons,List.take_take,Nat.min_eq_left hj]
 have mm:∀ p,aQ p (c :: r.take m')=min (m'+1) (aQ p (c :: r)):=fun p=>by rw [← List.take_succ_cons]; exact EM p _ _
 rw [List.take_succ_cons]
 unfold tokAt at h ⊢
 simp only at h ⊢
 split at h
 ·rename_i h1
  rw [if_pos h1]
  injection h with h; injection h with e1 h; injection h with e2 e3
  rw [mm,e2,Nat.min_eq_right hm,tt n hm,← e1,← e2,← e3]
 ·rename_i h1
  rw [if_neg h1]
  split at h
  ·rename_i h2
   rw [if_pos h2]
   split at h
   ·rename_i v' hv
    injection h with h; injection h with e1 h; injection h with e2 e3
    rw [mm,e2,Nat.min_eq_right hm,tt n hm,← e2,hv,← e1,← e3]
   ·cases h
  ·rename_i h2
   rw [if_neg h2]
   split at h
   ·cases h
   ·rename_i h3
    injection h with h; injection h with e1 h; injection h with e2 e3
    have:=xI (m:=m'+1) e2 hl.1 hm
    rw [List.take_succ_cons] at this
    rw [this,if_neg (by omega),← e1,← e3]
theorem Iy {l:List UInt8} {p:Nat} {ts:List Tok} (h:lx l p=.ok ts):(∀ t∈ts,p≤t.at')∧ts.Pairwise (fun a b=>a.at'<b.at'):=by
 have:∀ l p,∀ ts,lx l p=.ok ts→(∀ t∈ts,p≤t.at')∧ts.Pairwise (fun a b=>a.at'<b.at'):=by
  refine mi (fun p ts h=>?_) (fun c r p hb ih ts h=>?_) (fun c r p e' hb ht ts h=>?_) (fun c r p k n v hb ht ih ts h=>?_)
  ·rw [j6] at h; injection h with h; subst h; simp
  ·rw [kV hb] at h
   obtain ⟨h1,h2⟩:=ih ts h
   exact⟨fun t htm=>by have:=h1 t htm; omega,h2⟩
  ·rw [kX hb ht] at h; cases h
  ·rw [jW hb ht] at h
   cases hx:lx ((c :: r).drop n) (p+n) with
   | error e'=>rw [hx] at h; cases h
   | ok x =>
    rw [hx] at h; injection h with h; subst h
    obtain ⟨h1,h2⟩:=ih x hx
    have hl:=gB ht
    refine⟨fun t htm=>?_,List.pairwise_cons.2 ⟨fun t htm=>?_,h2⟩⟩
    ·rcases List.mem_cons.1 htm with rfl | htm
     ·exact Nat.le_refl _
     ·have:=h1 t htm; omega
    ·have:=h1 t htm; simp only; omega
 exact this l p ts h
end Go.Proofs.YtkkeocnnecegbaaGreatDoor
namespace Go.Proofs.YtkkeocnnecegbaaGreatDoor
def strip (t:Tok):Nat×List UInt8×Int:=(t.kind,t.text,t.n)
def Self (t:Tok):Prop:=∃ c r,t.text=c :: r∧dQ c=false∧tokAt (c :: r)=.ok (t.kind,(c :: r).length,t.n)
theorem FX {l:List UInt8} {p:Nat} {ts:List Tok} (h:lx l p=.ok ts):∃ inner e,ts=inner ++ [⟨5,[],0,e⟩]∧∀ t∈inner,Self t:=by
 have:∀ l p,∀ ts,lx l p=.ok ts→∃ inner e,ts=inner ++ [⟨5,[],0,e⟩]∧∀ t∈inner,Self t:=by
  refine mi (fun p ts h=>?_) (fun c r p hb ih ts h=>?_) (fun c r p e' hb ht ts h=>?_) (fun c r p k n v hb ht ih ts h=>?_)
  ·rw [j6] at h; injection h with h; exact⟨[],p,by rw [← h]; rfl,by simp⟩
  ·rw [kV hb] at h; exact ih ts h
  ·rw [kX hb ht] at h; cases h
  ·rw [jW hb ht] at h
   cases hx:lx ((c :: r).drop n) (p+n) with
   | error e'=>rw [hx] at h; cases h
   | ok x =>
    rw [hx] at h; injection h with h; subst h
    obtain ⟨inner,e,rfl,hi⟩:=ih x hx
    have hl:=gB ht
    refine⟨⟨k,(c :: r).take n,v,p⟩ :: inner,e,rfl,fun t htm=>?_⟩
    rcases List.mem_cons.1 htm with rfl | htm
    ·obtain ⟨m,rfl⟩:∃ m,n=m+1:=⟨n - 1,by omega⟩
     have hk:=BI ht (Nat.le_refl _)
     rw [List.take_succ_cons] at hk
     refine⟨c,r.take m,by simp,hb,?_⟩
     have hlen:(c :: r.take m).length=m+1:=by
      rw [List.length_cons,List.length_take]
      have:=hl.2; rw [List.length_cons] at this; omega
     rw [hlen]; exact hk
    ·exact hi t htm
 exact this l p ts h
theorem Ae {t:Tok} (h:Self t) (q:Nat):lx t.text q=.ok [⟨t.kind,t.text,t.n,q⟩,⟨5,[],0,q+t.text.length⟩]:=by
 obtain ⟨c,r,h1,h2,h3⟩:=h
 rw [h1,jW h2 h3,List.take_length,List.drop_length,j6]
 rfl
theorem IW (inner:List Tok) (h:∀ t∈inner,Self t):∀ q,∃ bs,lx (Lib.join (inner.map (·.text)) [32]) q=.ok bs∧bs.map strip=inner.map strip ++ [(5,[],0)]:=by
 induction inner with
 | nil=>intro q; exact⟨_,by rw [List.map_nil,Lib.join_nil]; exact j6 q,rfl⟩
 | cons t r ih =>
  intro q
  have ht:=h t (by simp)
  cases r with
  | nil=>exact⟨_,by rw [List.map_cons,List.map_nil,Lib.join_one]; exact Ae ht q,rfl⟩
  | cons u r =>
   have ih':=ih (fun t' ht'=>h t' (List.mem_cons_of_mem _ ht'))
   obtain ⟨bs,hb1,hb2⟩:=ih' (q+t.text.length+1)
   have hj:Lib.join ((t :: u :: r).map (·.text)) [32]=t.text ++ 32 :: Lib.join ((u :: r).map (·.text)) [32]:=by
    simp only [List.map_cons]
    rw [Lib.join_cons,Lib.join_cons]
    simp [Lib.joinTail]
   refine⟨⟨t.kind,t.text,t.n,q⟩ :: bs,?_,?_⟩
   ·rw [hj,lx_more (by decide),Ae ht]
    simp only [hb1,mapOk]
    rfl
   ·rw [List.map_cons,hb2]; rfl
end Go.Proofs.YtkkeocnnecegbaaGreatDoor
