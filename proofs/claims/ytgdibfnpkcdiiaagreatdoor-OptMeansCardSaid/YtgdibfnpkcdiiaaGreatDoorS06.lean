/- Joint text: EvD, EvE, EvF, EvG, EvH. By an AI agent. -/
import Derived.Test.YtgdibfnpkcdiiaaGreatDoorSzy
import Derived.Test.YtgdibfnpkcdiiaaGreatDoorS05
import Derived.Laws.Entries
import Derived.Laws.Strings
import Derived.Laws.BitsAllLaws
set_option linter.all false
set_option maxRecDepth 100000
set_option maxHeartbeats 64000000
noncomputable section
namespace Go.Proofs.YtgdibfnpkcdiiaaGreatDoor
namespace Ev
def kI{w:World}{o x:Obj}{b:Nat}(h:w.heap[b]? =some x):(w.alloc o).heap[b]? =some x:=by have a:=(qqs.1 h).1;show(w.heap.push o)[b]? =some x;rw[Array.getElem?_push,qzc oqo];exact h
def yK(w:World)(o:Obj):(w.alloc o).heap[w.heap.size]? =some o:=by show(w.heap.push o)[w.heap.size]? =some o;simp
def uh{cw n:Nat}(h:cw<2^(128*n)):cw<2^(128*(n+1)):=qzj h (Nat.pow_le_pow_right oqo oqo)
section
variable {g:Gh}{st:St}{w:World}
def Fr.alloc(h:HR g st w)(o:Obj){i:Info}(hi:∀b base z room,i=.cells b base z room->b=w.heap.size)(hm:∀b,i=.map b->b=w.heap.size):Fr g w (g.put st.nM i) (w.alloc o):=by
 refine⟨rfl,rfl,rfl,by show _<=(w.heap.push o).size;simp,Gh.nH i (j6 h (qqf _)),λb a _=>?_,λb a ho=>?_⟩;·rw[jqi a];exact kI (jqi a)
 ·rcases ho with⟨s,base,z,room,hs⟩|⟨s,hs⟩
  ·rw[Gh.bK]at hs;split at hs;·have:=hi _ _ _ _ hs;omega
   ·exact .inl ⟨s,base,z,room,hs⟩
  ·rw[Gh.bK]at hs;split at hs;·have:=hm _ hs;omega
   ·exact .inr ⟨s,hs⟩
def HR.alloc(h:HR g st w)(c:Array Value)(e:TypeId)(fr:Nat×Nat){n cw:Nat}(hn:n<=c.size)(k:cw<2^(128*n))(hv:∀i,i<n->VR g (gt cw i) (c.getD i undef))(one:∀i,i<c.size->(c.getD i undef).oneCell'=true)(thaw:ry fr c.size):HR (g.put st.nM (.cells w.heap.size 0 n c.size)) {st with M:=ad st.M st.nM cw,nM:=st.nM+n+1} (w.alloc (.cells c e fr))/\Fr g w (g.put st.nM (.cells w.heap.size 0 n c.size)) (w.alloc (.cells c e fr)):=by
 refine⟨?_,Fr.alloc h _ (λb base z room a=>by injection a with h1;exact h1.symm) (λb a=>by cases a)⟩;refine HR.grown h (i:=.cells w.heap.size 0 n c.size) (uh k) (by simp) ?_ ?_ ?_ (λws hw=>by cases hw) (λb a=>by cases a);·intro s blk base z room d f fr' _ hc;exact⟨d,f,fr',kI hc.heap,rfl,hc.one,λ_=>⟨rfl,rfl⟩⟩
 ·intro s blk hs;obtain⟨o,ho,_⟩:=h.maps s blk hs;rw[kI ho,ho]
 ·intro blk base z room hi;injection hi with h1 h2 h3 j;subst h1;subst h2;subst h3;subst j;refine⟨⟨c,e,fr,yK _ _,by omega,hn,one,λo ho=>?_,λ_=>thaw⟩,λs base' z' room' hs=>?_⟩;·rw[dK _ _ h.Mlt,qzc oqo,show st.nM+o-st.nM=o by omega,qja];exact(hv o ho).mono (Gh.nH _ (j6 h (qqf _)))
  ·exact absurd (Ak h (.inl ⟨s,base',z',room',hs⟩)) oqo
def HR.push(h:HR g st w)(o:Obj):HR g st (w.alloc o)/\Fr g w g (w.alloc o):=by
 refine⟨⟨h.S,h.nS,h.Slt,h.Mlt,h.Rlt,h.top,h.jR,λs blk base z room hs=>?_,h.rows,λs blk hs=>?_,h.inj,h.pK⟩,⟨rfl,rfl,rfl,by show _<=(w.heap.push o).size;simp,Gh.le.refl _,λb a _=>?_,λ_ _ h=>h⟩⟩;·obtain⟨c,e,fr,hc⟩:=h.cells s blk base z room hs;exact⟨c,e,fr,kI hc.heap,hc.size,hc.room,hc.one,hc.vr,hc.thaw⟩
 ·obtain⟨x,d,hm⟩:=h.maps s blk hs;exact⟨x,kI d,hm⟩
 ·rw[jqi a];exact kI (jqi a)
def HR.row(h:HR g st w)(ws:List Nat){cw:Nat}(e:cw<2^(128*ws.length))(hv:∀i,i<ws.length->gt cw i=ws.getD i 0):HR (g.put st.nM (.row ws)) {st with M:=ad st.M st.nM cw,nM:=st.nM+ws.length+1} w/\Fr g w (g.put st.nM (.row ws)) w:=by
 refine⟨HR.grown h (i:=.row ws) (uh e) (by simp) ?_ (λ_ _ _=>rfl) (λ_ _ _ _ hi=>by cases hi) ?_ (λb d=>by cases d),?_⟩;·intro s blk base z room a c fr' _ hc;exact⟨a,c,fr',hc.heap,rfl,hc.one,λ_=>⟨rfl,rfl⟩⟩
 ·intro f hw;injection hw with hw;subst hw;exact hv
 ·refine⟨rfl,rfl,rfl,qqf _,Gh.nH _ (j6 h (qqf _)),λ_ _ _=>rfl,λb _ ho=>?_⟩;rcases ho with⟨s,base,z,room,hs⟩|⟨s,hs⟩
  ·rw[Gh.bK]at hs;split at hs;·cases hs
   ·exact .inl ⟨s,base,z,room,hs⟩
  ·rw[Gh.bK]at hs;split at hs;·cases hs
   ·exact .inr ⟨s,hs⟩
def HR.kill(h:HR g st w){s blk base z room:Nat}(hr:g.rho s=.cells blk base z room):HR g {st with M:=up st.M s z 0} w:=by
 have hz:(0:Nat)<2^(128*z):=Nat.pow_pos oqo;have ht:=h.top s (by rw[hr];simp);rw[hr]at ht;have far:∀s',s'≠s->g.rho s'≠.free->∀o,o<=(g.rho s').size->gt (up st.M s z 0) (s'+o)=gt st.M (s'+o):=λs' a hf o ho=>by
  rw[mZ _ _ _ hz,qzc];rcases Nat.lt_or_gt_of_ne a with v|u;·have:=h.jR s' s v hf (by rw[hr];simp);omega
  ·have:=h.jR s s' u (by rw[hr];simp) hf;rw[hr]at this;have e:(Info.cells blk base z room).size=z:=rfl;omega
 have dead:∀o,o<z->gt (up st.M s z 0) (s+o)=0:=λo ho=>by rw[mZ _ _ _ hz,qzb oqo,xV]
 have live:∀s' z',s'≠s->(∃b base r,g.rho s'=.cells b base z' r)->Live (up st.M s z 0) s' z'->Live st.M s' z':=by rintro s' z' f⟨b,ba,r,e⟩⟨o,ho,d⟩;refine⟨o,ho,?_⟩;rwa[far s' f (by rw[e];simp) o (by rw[e];exact qzs ho)]at d
 have j:¬Live (up st.M s z 0) s z:=by rintro⟨o,ho,d⟩;exact d (dead o ho)
 refine⟨h.S,h.nS,h.Slt,Be h.Mlt (qzs ht) hz,h.Rlt,h.top,h.jR,?_,?_,?_,?_,h.pK⟩
 ·intro s' t base' z' room' a;obtain⟨c,e,fr,hc⟩:=h.cells s' t base' z' room' a;refine⟨c,e,fr,hc.heap,hc.size,hc.room,hc.one,λo ho=>?_,λhl=>?_⟩
  ·by_cases es:s'=s;·subst es;rw[hr]at a;injection a with _ _ k _;rw[dead o oqo];exact .unk _ (hc.one _ (by have:=hc.size;have:=hc.room;omega))
   ·rw[far s' es (by rw[a];simp) o (by rw[a];exact qzs ho)];exact hc.vr o ho
  ·by_cases es:s'=s;·subst es;rw[hr]at a;injection a with _ _ k _;subst k;exact absurd hl j
   ·exact hc.thaw (live s' z' es ⟨_,_,_,a⟩ hl)
 ·intro s' ws a i hi;have es:s'≠s:=by rintro rfl;rw[hr]at a;cases a
  show gt (up st.M s z 0) (s'+i)=_;rw[far s' es (by rw[a];simp) i (by rw[a];exact qzs hi)];exact h.rows s' ws a i hi
 ·intro s' b a;have es:s'≠s:=by rintro rfl;rw[hr]at a;cases a
  have:=far s' es (by rw[a];simp) 0 (qqy _);rw[qzz]at this;show∃o,_/\lL g (gt (up st.M s z 0) s') o;rw[this];exact h.maps s' b a
 ·intro s1 s2 b p n A q z2 B f h1 h2 l m;have x:s1≠s:=by rintro rfl;rw[hr]at h1;injection h1 with _ _ e _;subst e;exact j l
  have y:s2≠s:=by rintro rfl;rw[hr]at h2;injection h2 with _ _ e _;subst e;exact j m
  exact h.inj s1 s2 b p n A q z2 B f h1 h2 (live s1 n x ⟨_,_,_,h1⟩ l) (live s2 z2 y ⟨_,_,_,h2⟩ m)
def spl(c:Array Value)(o:Nat)(vs:List Value):Array Value:=(c.toList.take o++vs++c.toList.drop (o+vs.length)).toArray
def GQ(c:Array Value){o:Nat}{vs:List Value}(h:o+vs.length<=c.size):(spl c o vs).size=c.size:=by simp[spl];omega
def qR(c:Array Value){o:Nat}{vs:List Value}(h:o+vs.length<=c.size)(i:Nat):(spl c o vs).getD i undef=if o<=i/\i<o+vs.length then vs.getD (i-o) undef else c.getD i undef:=by
 have hl:(c.toList.take o).length=o:=by simp;omega
 rw[qqg,spl,jxc,List.append_assoc];by_cases h1:i<o;·rw[qzf oqo,qzc oqo,qzw,qzb h1,qjf,<-qqg]
 ·rw[qze oqo,hl];by_cases h2:i<o+vs.length;·rw[qzf oqo,qzb oqo,qqm]
  ·rw[qze oqo,qzc oqo,jzs,show o+vs.length+(i-o-vs.length)=i by omega,qjf,<-qqg]
def vU(P:Program)(b o:Nat)(t:TypeId)(c:Nat×Nat):∀(vs:List Value)(i:Nat)(a:Array Value)(w:World),w.heap[b]? =some (.cells a t c)->ry c a.size->o+i+vs.length<=a.size->(∀v∈vs,v.oneCell'=true)->(storeCells ⟨b,o,none⟩ vs i).run P w=.ok () (w.setRow b (spl a (o+i) vs))
 |[],i,a,w,d,_,_,_=>by simp only[spl,storeCells,jxd,jqz,qzz,List.take_append_drop,jzp];rw[setRow_self w b a t c d];rfl|v::rest,i,a,w,d,h,hl,h1=>by
  have hi:o+i<a.size:=by simp at hl;omega
  have k:(⟨b,o,none⟩:Addr).add i=⟨b,o+i,none⟩:=by unfold Addr.add;split<;>simp_all
  have m:w.cell? ⟨b,o+i,none⟩=some a[o+i]:=by simp[World.cell?,d,hi]
  have n:w.frozen? ⟨b,o+i,none⟩=false:=by
   obtain⟨f,j⟩:=c;simp only[World.frozen?,d];have r:f=j\/a.size<=f:=h;cases l:(decide (f<=o+i)&&decide (o+i<j));·rfl
   ·simp at l;omega
  have p:(store ((⟨b,o,none⟩:Addr).add i) v).run P w=.ok () (w.setRow b (a.setIfInBounds (o+i) v)):=by rw[k,run_store P w _ v _ (h1 v (by simp)),m];simp[n,setCell_eq_setRow w b (o+i) a t c v d]
  have ih:=vU P b o t c rest (i+1) (a.setIfInBounds (o+i) v) (w.setRow b (a.setIfInBounds (o+i) v)) (setRow_heap w b a _ t _ d) (by simpa using h) (by simp at hl⊢;omega) (λx q=>h1 x (by simp[q]));simp only[storeCells,qjm,p,qjl,ih,setRow_setRow];unfold spl;congr 3;have e:=list_seg_step a.toList (o+i) v rest (by simp at hl⊢;omega);simpa [Array.toList_setIfInBounds,jqu]using e
def rU.sQ{M s blk base z room:Nat}{c:Array Value}{e:TypeId}{fr:Nat×Nat}(hc:rU g M w s blk base z room c e fr)(a:Array Value):(w.setRow blk a).heap[blk]? =some (.cells a e fr):=setRow_heap w blk c a e fr hc.heap
def Fe{vs:List Value}{v:Value}(h:v∈vs):∃i,i<vs.length/\vs.getD i undef=v:=by obtain⟨i,hi,e⟩:=List.getElem_of_mem h;exact⟨i,hi,by simp[hi,e]⟩
def HR.store(h:HR g st w)(P:Program){s blk base z room o n cw:Nat}(hr:g.rho s=.cells blk base z room)(hl:Live st.M s z)(ho:o+n<=z)(C:cw<2^(128*n))(vs:List Value)(hn:vs.length=n)(hv:∀i,i<n->VR g (gt cw i) (vs.getD i undef)): ∃w',(storeCells ⟨blk,base+o,none⟩ vs).run P w=.ok () w'/\HR g {st with M:=up st.M (s+o) n cw} w'/\Fr g w g w':=by
 obtain⟨c,e,fr,hc⟩:=h.cells s blk base z room hr;have l0:=hc.size;have j0:=hc.room;have hlen:base+o+vs.length<=c.size:=oqo;have Z:∀v∈vs,v.oneCell'=true:=λv hm=>by obtain⟨i,hi,e⟩:=Fe hm;have:=(hv i oqo).one;rwa[e]at this
 have F:=vU P blk (base+o) e fr vs 0 c w hc.heap (hc.thaw hl) oqo Z;rw[qzz]at F;have ht:=h.top s (by rw[hr];simp);rw[hr]at ht;have E:(Info.cells blk base z room).size=z:=rfl;rw[E]at ht;have t:=GQ c hlen;have far:∀s',s'≠s->g.rho s'≠.free->∀j,j<=(g.rho s').size->gt (up st.M (s+o) n cw) (s'+j)=gt st.M (s'+j):=λs' t hf j hj=>by
  rw[mZ _ _ _ C,qzc];rcases Nat.lt_or_gt_of_ne t with W|U;·have:=h.jR s' s W hf (by rw[hr];simp);omega
  ·have:=h.jR s s' U (by rw[hr];simp) hf;rw[hr,E]at this;omega
 have live:∀s' z' b base r,g.rho s'=.cells b base z' r->Live (up st.M (s+o) n cw) s' z'->Live st.M s' z':=by
  rintro s' z' b ba r y X;by_cases es:s'=s;·subst es;rw[hr]at y;injection y with _ _ p _;subst p;exact hl
  ·obtain⟨j,hj,T⟩:=X;exact⟨j,hj,by rwa[far s' es (by rw[y];simp) j (by rw[y];exact qzs hj)]at T⟩
 refine⟨_,F,⟨h.S,h.nS,h.Slt,Be h.Mlt (show s+o+n<=st.nM by omega) C,h.Rlt,h.top,h.jR,?_,?_,?_,?_,h.pK⟩,⟨rfl,rfl,rfl,by simp,Gh.le.refl _,λb _ R=>?_,λ_ _ h=>h⟩⟩
 ·intro s' A base' z' room' f;obtain⟨c2,p,B,l⟩:=h.cells s' A base' z' room' f;by_cases m:A=blk
  ·subst m;have O:c2=c/\p=e/\B=fr:=by have:=l.heap.symm.trans hc.heap;injection this with this;injection this with a b d;exact⟨a,b,d⟩
   obtain⟨rfl,rfl,rfl⟩:=O;refine⟨spl c2 (base+o) vs,p,B,hc.sQ _,by rw[t];exact l.size,l.room,λi hi=>?_,λj hj=>?_,λ_=>by rw[t];exact hc.thaw hl⟩
   ·rw[qR c2 hlen];rw[t]at hi;by_cases q:base+o<=i/\i<base+o+vs.length;·rw[qzb q];exact(hv _ oqo).one
    ·rw[qzc q];exact hc.one i hi
   ·by_cases es:s'=s
    ·subst es;rw[hr]at f;injection f with _ J L N;subst J;subst L;subst N;rw[qR c2 hlen];show VR g (gt (up st.M (s'+o) n cw) (s'+j)) _;rw[mZ _ _ _ C];by_cases i0:o<=j/\j<o+n;·rw[qzb oqo,qzb oqo,show s'+j-(s'+o)=j-o by omega,show base+j-(base+o)=j-o by omega];exact hv _ oqo
     ·rw[qzc oqo,qzc oqo];exact hc.vr j hj
    ·have S:¬Live st.M s' z':=λD=>h.inj s s' A base z room base' z' room' (Ne.symm es) hr f hl D;show VR g (gt (up st.M (s+o) n cw) (s'+j)) _;rw[far s' es (by rw[f];simp) j (by rw[f];exact qzs hj)];have:gt st.M (s'+j)=0:=by cases hz:gt st.M (s'+j)with|zero=>rfl|succ k=>exact absurd ⟨j,hj,by rw[hz];simp⟩ S
     rw[this];refine .unk _ ?_;have V:base'+j<c2.size:=by have:=l.size;have:=l.room;omega
     rw[qR c2 hlen];by_cases q:base+o<=base'+j/\base'+j<base+o+vs.length;·rw[qzb q];exact(hv _ oqo).one
     ·rw[qzc q];exact hc.one _ V
  ·refine⟨c2,p,B,by rw[setRow_other _ _ _ _ m];exact l.heap,l.size,l.room,l.one,λj hj=>?_,λD=>l.thaw (live s' z' _ _ _ f D)⟩;have es:s'≠s:=by rintro rfl;rw[hr]at f;injection f with a;exact m a.symm
   show VR g (gt (up st.M (s+o) n cw) (s'+j)) _;rw[far s' es (by rw[f];simp) j (by rw[f];exact qzs hj)];exact l.vr j hj
 ·intro s' ws f i hi;have es:s'≠s:=by rintro rfl;rw[hr]at f;cases f
  show gt (up st.M (s+o) n cw) (s'+i)=_;rw[far s' es (by rw[f];simp) i (by rw[f];exact qzs hi)];exact h.rows s' ws f i hi
 ·intro s' b f;have es:s'≠s:=by rintro rfl;rw[hr]at f;cases f
  have:=far s' es (by rw[f];simp) 0 (qqy _);rw[qzz]at this;obtain⟨x,u,hm⟩:=h.maps s' b f;refine⟨x,?_,by show lL g (gt (up st.M (s+o) n cw) s') x;rw[this];exact hm⟩;rw[setRow_other _ _ _ _ (λm=>?_)];·exact u
  ·subst m;rw[hc.heap]at u;injection u with u;subst u;obtain⟨_,_,_,_,_,_,_,_,_,_,_,Q,_⟩:=hm;cases Q
 ·intro s1 s2 b H G d0 I z2 e0 Y h1 h2 l1 l2;exact h.inj s1 s2 b H G d0 I z2 e0 Y h1 h2 (live s1 G _ _ _ h1 l1) (live s2 z2 _ _ _ h2 l2)
 ·refine setRow_other _ _ _ _ (λm=>R ?_);subst m;exact .inl ⟨s,base,z,room,hr⟩
end
end Ev
namespace Ev
section
variable {g:Gh}{st:St}{w:World}
def NT(h:HR g st w){s blk base z room s' b ba z' r:Nat}(hr:g.rho s=.cells blk base z room)(a:g.rho s'=.cells b ba z' r)(hl:Live (up st.M s z 0) s' z'):s'≠s/\Live st.M s' z':=by
 have hz:(0:Nat)<2^(128*z):=Nat.pow_pos oqo;obtain⟨o,ho,c⟩:=hl;have e:s'≠s:=by rintro rfl;rw[hr]at a;injection a with _ _ j _;rw[mZ _ _ _ hz,qzb oqo,xV]at c;exact c rfl
 refine⟨e,o,ho,?_⟩;rwa[mZ _ _ _ hz,qzc]at c;rcases Nat.lt_or_gt_of_ne e with i|f;·have:=h.jR s' s i (by rw[a];simp) (by rw[hr];simp);rw[a]at this;have d:(Info.cells b ba z' r).size=z':=rfl;omega
 ·have:=h.jR s s' f (by rw[hr];simp) (by rw[a];simp);rw[hr]at this;have d:(Info.cells blk base z room).size=z:=rfl;omega
def HR.Xm(h:HR g st w)(P:Program){s blk base z room o l n cw:Nat}(hr:g.rho s=.cells blk base z room)(hl:Live st.M s z)(ho:o+l<=z)(hn':o+l+n<=room)(O:cw<2^(128*n))(vs:List Value)(hn:vs.length=n)(hv:∀i,i<n->VR g (gt cw i) (vs.getD i undef)): ∃w',(storeCells ⟨blk,base+(o+l),none⟩ vs).run P w=.ok () w'/\HR (g.put st.nM (.cells blk (base+o) (l+n) (room-o))) {st with M:=ad (up st.M s z 0) st.nM (ad (ch st.M (s+o) l) l cw),nM:=st.nM+(l+n)+1} w'/\Fr g w (g.put st.nM (.cells blk (base+o) (l+n) (room-o))) w':=by
 obtain⟨c,e,fr,hc⟩:=h.cells s blk base z room hr;have V:=hc.size;have U:=hc.room;have hlen:base+(o+l)+vs.length<=c.size:=oqo;have R:∀v∈vs,v.oneCell'=true:=λv hm=>by obtain⟨i,hi,e⟩:=Fe hm;have:=(hv i oqo).one;rwa[e]at this
 have F:=vU P blk (base+(o+l)) e fr vs 0 c w hc.heap (hc.thaw hl) oqo R;rw[qzz]at F;have q:=GQ c hlen;have k:=h.kill hr;have D:=jT st.M (s+o) l;have Q:=iJ D O;have H:∀i,i<(spl c (base+(o+l)) vs).size->((spl c (base+(o+l)) vs).getD i undef).oneCell'=true:=λi hi=>by
  rw[qR c hlen];rw[q]at hi;by_cases E:base+(o+l)<=i/\i<base+(o+l)+vs.length;·rw[qzb E];exact(hv _ oqo).one
  ·rw[qzc E];exact hc.one i hi
 have G:∀s' ba z' r,g.rho s'=.cells blk ba z' r->¬Live (up st.M s z 0) s' z':=λs' ba z' r f C=>by obtain⟨ne,T⟩:=NT h hr f C;exact h.inj s s' blk base z room ba z' r (Ne.symm ne) hr f hl T
 refine⟨_,F,HR.grown k (i:=.cells blk (base+o) (l+n) (room-o)) (uh Q) (by simp) ?_ ?_ ?_ (λws hw=>by cases hw) (λb p=>by cases p),?_⟩
 ·intro s' I base' z' room' c2 u y S A;by_cases m:I=blk
  ·subst m;have J:c2=c/\u=e/\y=fr:=by have:=A.heap.symm.trans hc.heap;injection this with this;injection this with a b d;exact⟨a,b,d⟩
   obtain⟨rfl,rfl,rfl⟩:=J;exact⟨_,u,y,hc.sQ _,q,H,λC=>absurd C (G s' base' z' room' S)⟩
  ·exact⟨c2,u,y,by rw[setRow_other _ _ _ _ m];exact A.heap,rfl,A.one,λ_=>⟨rfl,rfl⟩⟩
 ·intro s' b f;obtain⟨x,t,hm⟩:=h.maps s' b f;refine setRow_other _ _ _ _ (λm=>?_);subst m;rw[hc.heap]at t;injection t with t;subst t;obtain⟨_,_,_,_,_,_,_,_,_,_,_,N,_⟩:=hm;cases N
 ·intro b ba z' r hi;injection hi with h1 h2 h3 L;subst h1;subst h2;subst h3;subst L;refine⟨⟨_,e,fr,hc.sQ _,by rw[q];omega,by omega,H,λj hj=>?_,λ_=>by rw[q];exact hc.thaw hl⟩,λs' ba z' r f=>G s' ba z' r f⟩;show VR _ (gt (ad (up st.M s z 0) st.nM _) (st.nM+j)) _;rw[dK _ _ k.Mlt,qzc (show¬st.nM+j<st.nM by omega),show st.nM+j-st.nM=j from Nat.add_sub_cancel_left ..,dK _ _ D,qR c hlen];refine VR.mono (Gh.nH _ (j6 h (qqf _))) ?_;by_cases B:j<l;·rw[qzb B,jW,qzb B,qzc oqo];have:=hc.vr (o+j) oqo;rwa[<-jqu,<-jqu]at this
  ·rw[qzc B,qzb oqo,show base+o+j-(base+(o+l))=j-l by omega];exact hv _ oqo
 ·refine⟨rfl,rfl,rfl,by simp,Gh.nH _ (j6 h (qqf _)),λb _ p=>setRow_other _ _ _ _ (λm=>p (by subst m;exact .inl ⟨s,base,z,room,hr⟩)),λb _ p=>?_⟩;rcases p with⟨s',ba,z',r,f⟩|⟨s',f⟩
  ·rw[Gh.bK]at f;split at f;·injection f with h1;subst h1;exact .inl ⟨s,base,z,room,hr⟩
   ·exact .inl ⟨s',ba,z',r,f⟩
  ·rw[Gh.bK]at f;split at f;·cases f
   ·exact .inr ⟨s',f⟩
end
def chS(S st l:Nat):Nat:=Nat.land (Nat.shiftRight S (Nat.mul 8 st)) (Nat.sub (Nat.pow 2 (Nat.mul 8 l)) 1)
def adS(S n x:Nat):Nat:=Nat.lor S (Nat.shiftLeft x (Nat.mul 8 n))
def uf(S i n j:Nat):(chS S i n).testBit j=(decide (j<8*n)&&S.testBit (8*i+j)):=by show((S>>>(8*i))&&&(2^(8*n)-1)).testBit j=_;rw[Nat.testBit_and,Nat.testBit_shiftRight,Nat.testBit_two_pow_sub_one,Bool.and_comm]
def Np(S i:Nat):aH S i=chS S i 1:=rfl
def mg(S i j:Nat):(aH S i).testBit j=(decide (j<8)&&S.testBit (8*i+j)):=by rw[Np,uf]
def JH(S i c j:Nat):(adS S i c).testBit j=(S.testBit j||(decide (8*i<=j)&&c.testBit (j-8*i))):=by show(S|||(c<<<(8*i))).testBit j=_;rw[Nat.testBit_or,Nat.testBit_shiftLeft]
def nG(S i n:Nat):chS S i n<2^(8*n):=mU λj hj=>by rw[uf,qqt oqo];rfl
def jK(S i:Nat):aH S i<256:=nG S i 1
def nu(S i n k:Nat):aH (chS S i n) k=if k<n then aH S (i+k)else 0:=by
 refine jzl λj=>?_;rw[mg,uf];split
 ·rw[mg];by_cases hj:j<8
  ·have:8*k+j<8*n:=by omega
   simp[hj,this,show 8*i+(8*k+j)=8*(i+k)+j from by omega]
  ·simp[hj]
 ·by_cases hj:j<8
  ·have:¬8*k+j<8*n:=by omega
   simp[this]
  ·simp[hj]
def jX{S i:Nat}(c k:Nat)(h:S<2^(8*i)):aH (adS S i c) k=if k<i then aH S k else aH c (k-i):=by
 refine jzl λj=>?_;by_cases hj:j<8
 ·rw[mg,JH];split;·rw[mg];have a:¬8*i<=8*k+j:=oqo;simp[hj,a]
  ·rw[mg,jD h oqo];have a:8*i<=8*k+j:=oqo;have b:8*k+j-8*i=8*(k-i)+j:=oqo;simp[hj,a,b]
 ·split<;>simp[mg,hj]
def Bc{S i c n:Nat}(a:S<2^(8*i))(h:c<2^(8*n)):adS S i c<2^(8*(i+n)):=by refine mU λj hj=>?_;rw[JH,jD a oqo,jD h oqo];simp
def UT{S c a b l:Nat}(h:∀i,i<l->aH S (a+i)=aH c (b+i)):chS S a l=chS c b l:=by
 refine jzl λj=>?_;rw[uf,uf];by_cases hj:j<8*l;·have h1:=jqp (λx=>x.testBit (j%8)) (h (j/8) oqo);simp only[mg]at h1;have d:8*(a+j/8)+j%8=8*a+j:=oqo;have e:8*(b+j/8)+j%8=8*b+j:=oqo;have f:j%8<8:=oqo;simp only[d,e,f,decide_true,jxj]at h1;rw[h1]
 ·simp[hj]
def gD(S st l:Nat):(strOf S st l).size=l:=by simp[strOf,ByteArray.size]
def bL(S st l:Nat):(strOf S st l).data.toList=(List.range l).map λi=>UInt8.ofNat (aH S (st+i)):=by simp[strOf]
def yX{a b:Nat}(ha:a<256)(c:b<256)(h:UInt8.ofNat a=UInt8.ofNat b):a=b:=by have:=jqp UInt8.toNat h;simp only[UInt8.toNat_ofNat']at this;omega
def NA{S c a b l:Nat}(h:∀i,i<l->aH S (a+i)=aH c (b+i)):strOf S a l=strOf c b l:=by unfold strOf;congr 2;exact jqj λi hi=>by rw[h i (qzg.1 hi)]
def FE{S a b l:Nat}:strOf S a l=strOf S b l↔chS S a l=chS S b l:=by
 constructor;·intro h;refine UT λi hi=>?_;have h1:=jqp (λx=>x.data.toList[i]?) h;simp only[bL,qqp,qqz hi,jqf,qzk]at h1;exact yX (jK _ _) (jK _ _) h1
 ·intro h;refine NA λi hi=>?_;have h1:=jqp (λx=>aH x i) h;simpa only[nu,qzb hi]using h1
def vD(S st l a b:Nat)(h:b<=l):(strOf S st l).extract a b=strOf S (st+a) (b-a):=by
 apply jjn;apply jxt;rw[ByteArray.data_extract,Array.toList_extract,bL,bL];apply jqk;intro i;simp only[List.extract_eq_take_drop,qzw,jzs,qqp];by_cases hi:i<b-a;·rw[qzb hi,qqz oqo,qqz hi,jqf,jqf,jqu]
 ·rw[qzc hi,qza (by simp;omega),Option.map_none]
def Fj{S a l b m:Nat}(c n:Nat)(h1:∀i,i<l->aH c (n+i)=aH S (a+i))(h2:∀i,i<m->aH c (n+l+i)=aH S (b+i)):strOf S a l++strOf S b m=strOf c n (l+m):=by
 apply jjn;apply jxt;rw[ByteArray.data_append,Array.toList_append,bL,bL,bL];apply jqk;intro i;by_cases hi:i<l;·rw[qzf (by simpa using hi),qqp,qqp,qqz hi,qqz oqo,jqf,jqf,h1 i hi]
 ·rw[qze (by simpa using Nat.le_of_not_lt hi),qqv,List.length_range,qqp,qqp];by_cases d:i<l+m;·have:=h2 (i-l) oqo;rw[show n+l+(i-l)=n+i by omega]at this;rw[qqz oqo,qqz d,jqf,jqf,this]
  ·rw[qza (by simp;omega),qza (by simp;omega)];rfl
def HR.pool{g:Gh}{st:St}{w:World}(h:HR g st w)(l x:Nat)(a:x<2^(8*l)):HR {g with S:=adS st.S st.nS x,nS:=st.nS+l} {st with S:=adS st.S st.nS x,nS:=st.nS+l} w/\Fr g w {g with S:=adS st.S st.nS x,nS:=st.nS+l} w:=by
 have hle:g.le {g with S:=adS st.S st.nS x,nS:=st.nS+l}:=Gh.le.mk (rh:=rfl) (λ_ _=>rfl) (by show g.nS<=_;have:=h.nS;dsimp only;omega) λi hi=>by show aH (adS st.S st.nS x) i=_;rw[jX _ _ h.Slt,qzb (by rw[h.nS];exact hi),h.S]
 refine⟨⟨rfl,rfl,Bc h.Slt a,h.Mlt,h.Rlt,h.top,h.jR,λs blk base z room hs=>?_,h.rows,λs blk hs=>?_,h.inj,h.pK⟩,⟨rfl,rfl,rfl,qqf _,hle,λ_ _ _=>rfl,λ_ _ h=>h⟩⟩;·obtain⟨c,e,fr,hc⟩:=h.cells s blk base z room hs;exact⟨c,e,fr,hc.heap,hc.size,hc.room,hc.one,λo ho=>(hc.vr o ho).mono hle,hc.thaw⟩
 ·obtain⟨o,ho,hm⟩:=h.maps s blk hs;exact⟨o,ho,hm.mono hle⟩
end Ev
namespace Ev
inductive RS where|no|ok(w:Nat)(st:St)
def sel{α:Type}(b:Bool)(x y:α):α:=Bool.rec y x b
def ae{b:Bool}{x:RS}{w:Nat}{st:St}(h:sel b x .no=.ok w st):b=true/\x=.ok w st:=by cases b with|true=>exact⟨rfl,h⟩|false=>cases h
def ah{a b:Nat}(h:Nat.beq a b=true):a=b:=Nat.eq_of_beq_eq_true h
def fF{a b:Nat}(h:Nat.ble a b=true):a<=b:=Nat.le_of_ble_eq_true h
def aT{a b:Nat}(h:Nat.blt a b=true):a<b:=Nat.le_of_ble_eq_true h
def nA(a b:Nat):Nat.add a b=a+b:=rfl
def nS(a b:Nat):Nat.sub a b=a-b:=rfl
def nM(a b:Nat):Nat.mul a b=a*b:=rfl
def nD(a b:Nat):Nat.div a b=a/b:=rfl
def nR(a b:Nat):Nat.mod a b=a%b:=rfl
def aj{α:Type}(x y:α):sel true x y=x:=rfl
def ag{α:Type}(x y:α):sel false x y=y:=rfl
structure Kon where
 S:Nat
 n:Nat
 at_:List Nat
 rh:Nat->Value:=λ_=>undef
def Kon.gh(K:Kon):Gh:=⟨λ_=>.free,K.S,K.n,K.rh⟩
structure Kon.In(K:Kon)(g:Gh):Prop where
 n:K.n<=g.nS
 byte:∀i,i<K.n->aH g.S i=aH K.S i
def Kon.In.le{K:Kon}{g g':Gh}(h:K.In g)(k:g.le g'):K.In g':=⟨qzi h.n k.nS,λi hi=>(k.byte i (qzj hi h.n)).trans (h.byte i hi)⟩
inductive Opd where|s(t:Nat)|c(w:Nat)
def rd(T:Nat)(x:Opd):Nat:=Opd.rec (λi=>gt T i) (λw=>w) x
def iW(l:List UInt8):Nat:=l.foldr (λb n=>b.toNat+256*n) 0
def cV(K:Kon):Value->Nat
 | .bool b=>ou b| .int k n=>if-9223372036854775808<=n/\n<18446744073709551616 then ay k n else 0| .string s=>match K.at_.find? λst=>Nat.beq (chS K.S st s.size) (iW s.data.toList)&&Nat.ble (st+s.size) K.n&&Nat.blt s.size 16777216&&Nat.blt st 4294967296 with|some st=>dE st s.size|none=>0
 | .pointer none=>4| .slice none 0 0=>6| .map none=>9| .nilFunc=>25| .nilIface=>41|_=>0
def cOp(K:Kon):Operand->Opd| .tmp t=>.s t| .const v=>.c (cV K v)| .func f=>.c (if f<65536 then ig f else 0)| .global _=>.c 0
def Bh(S i:Nat):aH S i=S/2^(8*i)%256:=by show(S>>>(8*i))&&&(2^8-1)=_;rw[Nat.and_two_pow_sub_one_eq_mod,Nat.shiftRight_eq_div_pow]
def mP:∀(l:List UInt8)(i:Nat)(h:i<l.length),aH (iW l) i=l[i].toNat|b::l,0,_=>by have:=b.toNat_lt;rw[Bh];change(b.toNat+256*iW l)/2^0%256=b.toNat;rw[Nat.pow_zero,Nat.div_one,Nat.add_mul_mod_self_left];exact qje this|b::l,i+1,h=>by have ih:=mP l i (by simpa using h);have:=b.toNat_lt;rw[Bh]at ih⊢;rw[List.getElem_cons_succ,<-ih,iW,List.foldr_cons,show 8*(i+1)=8+8*i by omega,Nat.pow_add,<-Nat.div_div_eq_div_mul];congr 2;change(b.toNat+256*iW l)/256=_;rw[Nat.add_mul_div_left _ _ (by decide),Nat.div_eq_of_lt this,qja]
def IY{K:Kon}{g:Gh}(h:K.In g){st:Nat}{s:ByteArray}(e:chS K.S st s.size=iW s.data.toList)(a:st+s.size<=K.n):strOf g.S st s.size=s:=by
 apply jjn;apply jxt;rw[bL];apply List.ext_getElem;·rw[qqv,List.length_range];rfl
 ·intro i h1 h2;have hi:i<s.size:=by simpa using h1
  simp only[jjl,List.getElem_range];have:=jqp (λx=>aH x i) e;simp only[nu,qzb hi]at this;rw[mP _ _ h2]at this;rw[h.byte _ oqo,this];simp
def Ef{K:Kon}{g:Gh}(h:K.In g)(R nR:Nat)(v:Value):TR g R nR (cV K v) v:=by
 unfold cV;split;·exact .cell _ _ (.bool _)
 ·split;·rename_i h2;exact .cell _ _ (.int _ _ h2.1 h2.2)
  ·exact .unk _
 ·rename_i s;split;·rename_i st hf;have h1:=List.find?_some hf;simp only[qqn]at h1;obtain⟨⟨⟨h1,h2⟩,h3⟩,a⟩:=h1;have h1:=ah h1;have h2:=fF h2;have h3:=aT h3;have a:=aT a;have e:=IY h h1 h2;have:=VR.str (g:=g) st s.size h3 (qzi h2 h.n) a;rw[e]at this;exact .cell _ _ this
  ·exact .unk _
 ·exact .cell _ _ .pnil
 ·exact .cell _ _ .snil
 ·exact .cell _ _ .mnil
 ·exact .cell _ _ .fnil
 ·exact .cell _ _ .inil
 ·exact .unk _
def Fb{K:Kon}{g:Gh}(h:K.In g){T R nR:Nat}{a:Act}{x:Operand}(ht:∀t,x=.tmp t->TR g R nR (gt T t) (a.eval x)):TR g R nR (rd T (cOp K x)) (a.eval x):=by
 cases x with|tmp t=>exact ht t rfl|const v=>exact Ef h R nR v|func f=>
  show TR g R nR (if f<65536 then ig f else 0) (.func (.func f) #[] #[]);split;·rename_i hf;exact .cell _ _ (.fn0 f hf)
  ·exact .unk _|global i=>exact .unk _
structure Post(g:Gh)(st:St)(w:World)(g':Gh)(st':St)(w':World)(x:Nat)(v:Value):Prop where
 hr:HR g' st' w'
 fr:Fr g w g' w'
 ext:Ext st.R st.nR st'.R st'.nR
 tr:TR g' st'.R st'.nR x v
 T:st'.T=st.T
 D:st'.D=st.D
def ma(w w':World):Prop:=∀g st,HR g st w->HR g st w'/\Fr g w g w'
def ma.refl(w:World):ma w w:=λg _ h=>⟨h,Fr.refl g w⟩
def ma.push(w:World)(o:Obj):ma w (w.alloc o):=λ_ _ h=>h.push o
def dC(P:Program):Op->Bool
 | .move _| .assign _| .pick _ _ _| .load _ _| .nilCheck _| .binOp _ _ _ _ _| .unOp _ _ _| .makeInterface _ _| .makeFunc _ _ _| .lookup _ _ _ _| .slice _ _ _ _ _=>true| .fieldAddr _ _ _| .field _ _ _| .indexAddr _ _ _| .index _ _ _| .extract _ _| .build _ _=>true| .buildSlice _ len _=>Nat.beq len 0| .convert _ d _=>match P.underlying d with|some (.slice _)=>false|_=>true
 | .call {callee:=.builtin .len,.. }| .call {callee:=.builtin .max,.. }| .call {callee:=.builtin .min,.. }=>true|_=>false
def OpV(P:Program)(K:Kon)(o:Oper)(f:St->RS):Prop:= ∀(g:Gh)(st:St)(a:Act)(w:World)(x:Nat)(st':St),K.In g->HR g st w->(∀y∈o.op.operands,TR g st.R st.nR (rd st.T (cOp K y)) (a.eval y))->f st=.ok x st'-> ∃g' w' v,((execOp a.eval o).run P w=.ok (.value v) w'\/((execOp a.eval o).run P w=.ok .skip w'/\v=undef))/\Post g st w g' st' w' x v/\(dC P o.op=true->w'=w\/(g'=g/\st'=st/\ma w w'))
def Post.same{g:Gh}{st:St}{w:World}(h:HR g st w){x:Nat}{v:Value}(t:TR g st.R st.nR x v):Post g st w g st w x v:=⟨h,Fr.refl g w,Ext.refl _ _,t,rfl,rfl⟩
def OpV.pure{P:Program}{K:Kon}{o:Oper}{f:St->RS}(hf:∀(g:Gh)(st:St)(a:Act)(w:World)(x:Nat)(st':St),K.In g->HR g st w->(∀y∈o.op.operands,TR g st.R st.nR (rd st.T (cOp K y)) (a.eval y))->f st=.ok x st'->st'=st/\∃v,(execOp a.eval o).run P w=.ok (.value v) w/\TR g st.R st.nR x v):OpV P K o f:=λg st a w x st' hk h b e=>by obtain⟨rfl,v,hr,ht⟩:=hf g st a w x st' hk h b e;exact⟨g,w,v,.inl hr,.same h ht,λ_=>.inl rfl⟩
section
variable {P:Program}{K:Kon}{o:Oper}
def tQ(x:Opd)(st:St):RS:=.ok (rd st.T x) st
def DX{x:Operand}(ho:o.op=.move x\/o.op=.assign x):OpV P K o (tQ (cOp K x)):=.pure λg st a w y st' hk h d e=>by
 unfold tQ at e;injection e with b c;subst b;subst c;refine⟨rfl,a.eval x,?_,d x ?_⟩;·rcases ho with ho|ho<;>simp only[execOp,ho]<;>rfl
 ·rcases ho with ho|ho<;>simp[ho,Op.operands]
def FD(c x y:Opd)(st:St):RS:=sel (Nat.beq (rd st.T c) 17) (.ok (rd st.T x) st) (sel (Nat.beq (rd st.T c) 1) (.ok (rd st.T y) st) .no)
def Pd{c x y:Operand}(ho:o.op=.pick c x y):OpV P K o (FD (cOp K c) (cOp K x) (cOp K y)):=.pure λg st a w z st' hk h i e=>by unfold FD at e;have hc:=i c (by simp[ho,Op.operands]);cases h1:Nat.beq (rd st.T (cOp K c)) 17 with
 |true=>
  rw[h1,aj]at e;injection e with d f;subst d;subst f;have h1:=ah h1;refine⟨rfl,a.eval x,?_,i x (by simp[ho,Op.operands])⟩;obtain⟨b,d,f⟩:=(hc.aM oqo oqo oqo oqo).iC oqo;have:b=true:=by cases b with|true=>rfl|false=>rw[h1]at d;exact absurd d (by decide)
  subst this;simp only[execOp,ho,f];rfl|false=>
  rw[h1,ag]at e;obtain⟨h2,e⟩:=ae e;injection e with d f;subst d;subst f;have h2:=ah h2;refine⟨rfl,a.eval y,?_,i y (by simp[ho,Op.operands])⟩;obtain⟨b,d,f⟩:=(hc.aM oqo oqo oqo oqo).iC oqo;have:b=false:=by cases b with|false=>rfl|true=>rw[h2]at d;exact absurd d (by decide)
  subst this;simp only[execOp,ho,f];rfl
end
end Ev
namespace Ev
def dI(w:Nat):Int:=Int.sub (Int.ofNat (Nat.div w 256)) 9223372036854775808
def eI(k:IntKind)(n:Int):Nat:=sel (decide (-9223372036854775808<=n)&&decide (n<18446744073709551616)) (ay k n) 0
def qC(k:IntKind)(n:Int)(h: -9223372036854775808<=n):dI (ay k n)=n:=by have:=jy k;show((ay k n/256:Nat):Int)-9223372036854775808=n;unfold ay;omega
def uN(k:IntKind)(n:Int):ay k n%256=2+16*kc k:=by have:=jy k;unfold ay;omega
def Lv(g:Gh)(k:IntKind)(n:Int)(h:eI k n≠0):VR g (eI k n) (.int k n):=by unfold eI at*;cases a:(decide (-9223372036854775808<=n)&&decide (n<18446744073709551616))with|false=>rw[a]at h;exact absurd rfl h|true=>simp only[qqn,qqu]at a;exact .int k n a.1 a.2
def TR.int{g:Gh}{R nR w:Nat}{v:Value}{k:IntKind}(h:TR g R nR w v)(hm:w%256=2+16*kc k):∃n,w=ay k n/\v=.int k n/\-9223372036854775808<=n/\n<18446744073709551616:=by have:=jy k;obtain⟨b,n,a,c,h1,h2⟩:=(h.aM oqo oqo oqo oqo).jB oqo;have e:=uN b n;rw[<-a,hm]at e;have:b=k:=xu oqo;subst this;exact⟨n,a,c,h1,h2⟩
def TR.int'{g:Gh}{R nR w:Nat}{v:Value}(h:TR g R nR w v)(hm:w%16=2):∃k n,w=ay k n/\v=.int k n/\-9223372036854775808<=n/\n<18446744073709551616:=(h.aM oqo oqo oqo oqo).jB hm
section
variable {P:Program}{K:Kon}{o:Oper}
def FY:BinOp->Int->Int->Option Bool| .eql,a,b=>some (a==b)| .neq,a,b=>some (a !=b)| .lss,a,b=>some (decide (a<b))| .leq,a,b=>some (decide (a<=b))| .gtr,a,b=>some (decide (a>b))| .geq,a,b=>some (decide (a≥b))|_,_,_=>none
def Qg:BinOp->Nat->Nat->Nat| .eql,a,b=>sel (Nat.beq a b) 17 1| .neq,a,b=>sel (Nat.beq a b) 1 17| .lss,a,b=>sel (Nat.blt a b) 17 1| .leq,a,b=>sel (Nat.ble a b) 17 1| .gtr,a,b=>sel (Nat.blt b a) 17 1| .geq,a,b=>sel (Nat.ble b a) 17 1|_,_,_=>0
def Q6(b:Bool):ou b=sel b 17 1:=rfl
def UN(op:BinOp)(k:IntKind)(a b:Int)(ha: -9223372036854775808<=a)(c: -9223372036854775808<=b){r:Bool}(h:FY op a b=some r):Qg op (ay k a) (ay k b)=ou r:=by
 have hk:=jy k;have i:Nat.beq (ay k a) (ay k b)=(a==b):=by cases d:(a==b)with|true=>rw[eq_of_beq d];exact Nat.beq_refl _|false=>refine Bool.eq_false_iff.2 λhc=>?_;have:=ah hc;unfold ay at this;exact absurd (show a=b by omega) (by simpa using d)
 have e:∀a b:Int,-9223372036854775808<=a->-9223372036854775808<=b->Nat.ble (ay k a) (ay k b)=decide (a<=b):=λa b ha c=>by rw[qzd];simp only[Nat.ble_eq,qqu];unfold ay;omega
 have f:∀a b:Int,-9223372036854775808<=a->-9223372036854775808<=b->Nat.blt (ay k a) (ay k b)=decide (a<b):=λa b ha c=>by rw[qzd];simp only[Nat.blt_eq,qqu];unfold ay;omega
 cases op<;>simp only[FY,qzk,reduceCtorEq]at h<;>subst h<;>simp only[Qg,i,e _ _ ha c,e _ _ c ha,f _ _ ha c,f _ _ c ha,Q6,gt_iff_lt,ge_iff_le];cases d:(a==b)<;>simp[sel,bne,d]
def VJ(t _u:TypeId)(_x _y:Operand)(op:BinOp)(k:IntKind)(a b:Int)(w:World){r:Bool}(h:FY op a b=some r):(binOp op t (.int k a) (.int k b)).run P w=.ok (.bool r) w:=by cases op<;>simp only[FY,qzk,reduceCtorEq]at h<;>subst h<;>simp[binOp,Op.intCmp]
def Mg(op:BinOp)(c:Nat)(x y:Opd)(st:St):RS:=sel (Nat.beq (Nat.mod (rd st.T x) 256) c) (sel (Nat.beq (Nat.mod (rd st.T y) 256) c) (.ok (Qg op (rd st.T x) (rd st.T y)) st) .no) .no
def UE:BinOp->Bool| .eql| .neq| .lss| .leq| .gtr| .geq=>true|_=>false
def Qs{op:BinOp}{t u:TypeId}{x y:Operand}{k:IntKind}(ho:o.op=.binOp op t x y u)(hc:UE op=true):OpV P K o (Mg op (2+16*kc k) (cOp K x) (cOp K y)):=.pure λg st a w z st' _ _ c e=>by
 unfold Mg at e;obtain⟨h1,e⟩:=ae e;obtain⟨h2,e⟩:=ae e;injection e with b i;obtain⟨n,d,f,a3,_⟩:=(c x (by simp[ho,Op.operands])).int (ah h1);obtain⟨m,b1,b2,h,_⟩:=(c y (by simp[ho,Op.operands])).int (ah h2);obtain⟨r,hr⟩:∃r,FY op n m=some r:=by cases op<;>first|exact⟨_,rfl⟩|cases hc
 rw[d,b1,UN op k n m a3 h hr]at b;refine⟨i.symm,.bool r,?_,by rw[<-b];exact .cell _ _ (.bool r)⟩;simp only[execOp,ho,f,b2,qjm,eqGuard_at_int];simp[VJ t u x y op k n m w hr]
def Ag(op:BinOp)(k:IntKind)(n m:Int):Option Int:=match op with| .add=>some (k.wrap (n+m))| .sub=>some (k.wrap (n-m))| .mul=>some (k.wrap (n*m))| .quo=>if m=0 then none else some (k.wrap (n.tdiv m))| .rem=>if m=0 then none else some (n.tmod m)| .and=>some (k.wrap (BitVec.ofInt k.bits n&&&BitVec.ofInt k.bits m).toNat)| .or=>some (k.wrap (BitVec.ofInt k.bits n|||BitVec.ofInt k.bits m).toNat)| .xor=>some (k.wrap (BitVec.ofInt k.bits n^^^BitVec.ofInt k.bits m).toNat)| .andNot=>some (k.wrap (BitVec.ofInt k.bits n&&& ~~~BitVec.ofInt k.bits m).toNat)| .shl=>if m<0 then none else some (k.wrap (n*2^min m.toNat k.bits))| .shr=>if m<0 then none else some (n.fdiv (2^min m.toNat k.bits))|_=>none
def xz:BinOp->Bool| .shl| .shr=>true|_=>false
def KH(t:TypeId)(op:BinOp)(k j:IntKind)(n m:Int)(w:World){r:Int}(h:Ag op k n m=some r)(hj:xz op=true\/j=k):(binOp op t (.int k n) (.int j m)).run P w=.ok (.int k r) w:=by cases op<;>simp only[Ag,reduceCtorEq,qzk]at h<;>first|(have hj:=hj.resolve_left (by decide);subst hj;subst h;simp[binOp,Op.intArith,Op.intBits];done)|(have hj:=hj.resolve_left (by decide);subst hj;split at h<;>first|(cases h;done)|(rename_i h0;injection h with h;subst h;simp[binOp,Op.intDiv,h0];done))|(split at h<;>first|(cases h;done)|(rename_i h0;injection h with h;subst h;simp[binOp,Op.shift,h0];done))
def L6(op:BinOp)(k:IntKind)(c:Nat)(x y:Opd)(st:St):RS:=sel (Nat.beq (Nat.mod (rd st.T x) 256) c) (sel (sel (xz op) (Nat.beq (Nat.mod (rd st.T y) 16) 2) (Nat.beq (Nat.mod (rd st.T y) 256) c))
  (Option.rec .no (λr=>fc (eI k r) λz=>sel (Nat.beq z 0) .no (.ok z st)) (Ag op k (dI (rd st.T x)) (dI (rd st.T y)))) .no) .no
def Sl{op:BinOp}{t u:TypeId}{x y:Operand}{k:IntKind}(ho:o.op=.binOp op t x y u):OpV P K o (L6 op k (2+16*kc k) (cOp K x) (cOp K y)):=.pure λg st a w z st' _ _ c e=>by
 unfold L6 at e;obtain⟨h1,e⟩:=ae e;obtain⟨h2,e⟩:=ae e;obtain⟨n,d,f,a3,_⟩:=(c x (by simp[ho,Op.operands])).int (ah h1);have l:∃j m,rd st.T (cOp K y)=ay j m/\a.eval y=.int j m/\-9223372036854775808<=m/\(xz op=true\/j=k):=by cases hs:xz op with|true=>rw[hs,aj]at h2;obtain⟨j,m,b1,b2,b,_⟩:=(c y (by simp[ho,Op.operands])).int' (ah h2);exact⟨j,m,b1,b2,b,.inl rfl⟩|false=>rw[hs,ag]at h2;obtain⟨m,b1,b2,b,_⟩:=(c y (by simp[ho,Op.operands])).int (ah h2);exact⟨k,m,b1,b2,b,.inr rfl⟩
 obtain⟨j,m,b1,b2,b,hj⟩:=l;rw[d,b1,qC k n a3,qC j m b]at e;cases hr:Ag op k n m with|none=>rw[hr]at e;cases e|some r=>rw[hr]at e;simp only[bX]at e;cases h0:Nat.beq (eI k r) 0 with|true=>rw[h0,aj]at e;cases e|false=>
   rw[h0,ag]at e;injection e with h i;have p:eI k r≠0:=λhc=>by rw[hc]at h0;exact absurd h0 (by decide)
   refine⟨i.symm,.int k r,?_,by rw[<-h];exact .cell _ _ (Lv g k r p)⟩;simp only[execOp,ho,f,b2,qjm,eqGuard_at_int];simp[KH t op k j n m w hr hj]
def JC{k:IntKind}{n:Int}(h1:k.min<=n)(h2:n<=k.max):k.wrap n=n:=by cases k<;>simp[IntKind.wrap,IntKind.min,IntKind.max,IntKind.bits,IntKind.signed]at* <;>omega
def Oq(k:IntKind): -9223372036854775808<=k.min:=by cases k<;>decide
def max_lt(k:IntKind):k.max<18446744073709551616:=by cases k<;>decide
def MK(c off a hi:Nat)(x y:Opd)(st:St):RS:=sel (Nat.beq (Nat.mod (rd st.T x) 256) c) (sel (Nat.beq (Nat.mod (rd st.T y) 256) c)
  (fc (Nat.sub (Nat.add (rd st.T x) (rd st.T y)) off) λz=>sel (Nat.ble a z) (sel (Nat.ble z hi) (.ok z st) .no) .no) .no) .no
def KU(c off a hi:Nat)(x y:Opd)(st:St):RS:=sel (Nat.beq (Nat.mod (rd st.T x) 256) c) (sel (Nat.beq (Nat.mod (rd st.T y) 256) c)
  (fc (Nat.sub (Nat.add (rd st.T x) off) (rd st.T y)) λz=>sel (Nat.ble a z) (sel (Nat.ble z hi) (.ok z st) .no) .no) .no) .no
def Qm{t u:TypeId}{x y:Operand}{k:IntKind}(ho:o.op=.binOp .add t x y u):OpV P K o (MK (2+16*kc k) (ay k 0) (ay k k.min) (ay k k.max) (cOp K x) (cOp K y)):=.pure λg st a w z st' _ _ d e=>by
 unfold MK at e;obtain⟨h1,e⟩:=ae e;obtain⟨h2,e⟩:=ae e;rw[bX]at e;obtain⟨h3,e⟩:=ae e;obtain⟨b,e⟩:=ae e;injection e with c i;have h3:=fF h3;have b:=fF b;obtain⟨n,f,h,a3,_⟩:=(d x (by simp[ho,Op.operands])).int (ah h1);obtain⟨m,b1,b2,p,_⟩:=(d y (by simp[ho,Op.operands])).int (ah h2);rw[f,b1]at c h3 b;have hk:=jy k;have s:=Oq k;have v:=max_lt k;have r: -9223372036854775808<=n+m:=by change ay k k.min<=ay k n+ay k m-ay k 0 at h3;unfold ay at h3;omega
 have hz:Nat.sub (Nat.add (ay k n) (ay k m)) (ay k 0)=ay k (n+m):=by
  show ay k n+ay k m-ay k 0=_;change ay k k.min<=ay k n+ay k m-ay k 0 at h3;have q:k.min<=k.max:=by cases k<;>decide
  unfold ay at*;omega
 rw[hz]at c h3 b;have j:k.min<=n+m:=by
  unfold ay at h3;have:k.min<=0:=by(cases k<;>decide)
  omega
 have l:n+m<=k.max:=by
  unfold ay at b;have:0<=k.max:=by(cases k<;>decide)
  omega
 refine⟨i.symm,.int k (n+m),?_,by rw[<-c];exact .cell _ _ (.int k _ oqo oqo)⟩;simp only[execOp,ho,h,b2,qjm,eqGuard_at_int];simp[binOp,Op.intArith,JC j l]
def Ty{t u:TypeId}{x y:Operand}{k:IntKind}(ho:o.op=.binOp .sub t x y u):OpV P K o (KU (2+16*kc k) (ay k 0) (ay k k.min) (ay k k.max) (cOp K x) (cOp K y)):=.pure λg st a w z st' _ _ d e=>by
 unfold KU at e;obtain⟨h1,e⟩:=ae e;obtain⟨h2,e⟩:=ae e;rw[bX]at e;obtain⟨h3,e⟩:=ae e;obtain⟨b,e⟩:=ae e;injection e with c i;have h3:=fF h3;have b:=fF b;obtain⟨n,f,h,a3,_⟩:=(d x (by simp[ho,Op.operands])).int (ah h1);obtain⟨m,b1,b2,p,_⟩:=(d y (by simp[ho,Op.operands])).int (ah h2);rw[f,b1]at c h3 b;have hk:=jy k;have r:=Oq k;have s:=max_lt k;have q: -9223372036854775808<=n-m:=by change ay k k.min<=ay k n+ay k 0-ay k m at h3;unfold ay at h3;omega
 have hz:Nat.sub (Nat.add (ay k n) (ay k 0)) (ay k m)=ay k (n-m):=by show ay k n+ay k 0-ay k m=_;change ay k k.min<=ay k n+ay k 0-ay k m at h3;unfold ay at*;omega
 rw[hz]at c h3 b;have j:k.min<=n-m:=by
  unfold ay at h3;have:k.min<=0:=by(cases k<;>decide)
  omega
 have l:n-m<=k.max:=by
  unfold ay at b;have:0<=k.max:=by(cases k<;>decide)
  omega
 refine⟨i.symm,.int k (n-m),?_,by rw[<-c];exact .cell _ _ (.int k _ oqo oqo)⟩;simp only[execOp,ho,h,b2,qjm,eqGuard_at_int];simp[binOp,Op.intArith,JC j l]
end
end Ev
namespace Ev
section
variable {P:Program}{K:Kon}{o:Oper}
def dG{t:TypeId}{i:TypeInfo}(h:P.info? t=some i)(w:World):(sizeOf t).run P w=.ok i.size w:=by simp[sizeOf,typeInfo,h]
def kr{t:TypeId}{i:TypeInfo}(h:P.info? t=some i)(w:World):(typeInfo t).run P w=.ok i w:=by simp[typeInfo,h]
def gU:TypeDesc->Bool| .struct _| .array _ _=>true|_=>false
def rD{t:TypeId}{d:TypeDesc}(h:P.underlying t=some d)(w:World):(isAgg t).run P w=.ok (gU d) w:=by cases d<;>simp[isAgg,jqa h,gU]
def kG(b o k:Nat):(⟨b,o,none⟩:Addr).add k=⟨b,o+k,none⟩:=by unfold Addr.add;split<;>simp_all
def Km(x:Opd)(st:St):RS:=sel (Nat.beq (rd st.T x) 17) (.ok 1 st) (sel (Nat.beq (rd st.T x) 1) (.ok 17 st) .no)
def TR.Yi{g:Gh}{R nR w:Nat}{v:Value}(h:TR g R nR w v)(e:w=17):v=.bool true:=by obtain⟨b,a,c⟩:=(h.aM oqo oqo oqo oqo).iC oqo;cases b with|true=>exact c|false=>rw[e]at a;exact absurd a (by decide)
def TR.YY{g:Gh}{R nR w:Nat}{v:Value}(h:TR g R nR w v)(e:w=1):v=.bool false:=by obtain⟨b,a,c⟩:=(h.aM oqo oqo oqo oqo).iC oqo;cases b with|false=>exact c|true=>rw[e]at a;exact absurd a (by decide)
def QR{t:TypeId}{x:Operand}(ho:o.op=.unOp .not t x):OpV P K o (Km (cOp K x)):=.pure λg st a w z st' _ _ f e=>by unfold Km at e;have d:=f x (by simp[ho,Op.operands]);cases h1:Nat.beq (rd st.T (cOp K x)) 17 with|true=>rw[h1,aj]at e;injection e with b c;refine⟨c.symm,.bool false,?_,by rw[<-b];exact .cell _ _ (.bool false)⟩;simp[execOp,ho,d.Yi (ah h1),Op.unary]|false=>rw[h1,ag]at e;obtain⟨h2,e⟩:=ae e;injection e with b c;refine⟨c.symm,.bool true,?_,by rw[<-b];exact .cell _ _ (.bool true)⟩;simp[execOp,ho,d.YY (ah h2),Op.unary]
def LX(k:IntKind)(c:Nat)(x:Opd)(st:St):RS:=sel (Nat.beq (Nat.mod (rd st.T x) 256) c) (fc (eI k (k.wrap (Int.sub 0 (dI (rd st.T x))))) λz=>sel (Nat.beq z 0) .no (.ok z st)) .no
def oQ{b:Bool}{x:RS}{w:Nat}{st:St}(h:sel b .no x=.ok w st):b=false/\x=.ok w st:=by cases b with|false=>exact⟨rfl,h⟩|true=>cases h
def gM{a b:Nat}(h:Nat.beq a b=false):a≠b:=Nat.ne_of_beq_eq_false h
def Qu{t:TypeId}{x:Operand}{k:IntKind}(ho:o.op=.unOp .neg t x):OpV P K o (LX k (2+16*kc k) (cOp K x)):=.pure λg st a w z st' _ _ h e=>by unfold LX at e;obtain⟨h1,e⟩:=ae e;rw[bX]at e;obtain⟨h2,e⟩:=oQ e;injection e with b f;obtain⟨n,c,d,a3,_⟩:=(h x (by simp[ho,Op.operands])).int (ah h1);rw[c,qC k n a3]at b h2;refine⟨f.symm,.int k (k.wrap (0-n)),?_,by rw[<-b];exact .cell _ _ (Lv g k _ (gM h2))⟩;simp[execOp,ho,d,Op.unary,Op.intArith]
def E8(k:IntKind)(x:Opd)(st:St):RS:=sel (Nat.beq (Nat.mod (rd st.T x) 16) 2) (fc (eI k (k.wrap (dI (rd st.T x)))) λz=>sel (Nat.beq z 0) .no (.ok z st)) .no
def OE{s d:TypeId}{x:Operand}{k:IntKind}{u:TypeDesc}(ho:o.op=.convert s d x)(hs:P.underlying s=some u)(hd:P.underlying d=some (.int k)):OpV P K o (E8 k (cOp K x)):=.pure λg st a w z st' _ _ i e=>by unfold E8 at e;obtain⟨h1,e⟩:=ae e;rw[bX]at e;obtain⟨h2,e⟩:=oQ e;injection e with b h;obtain⟨j,n,c,f,a3,_⟩:=(i x (by simp[ho,Op.operands])).int' (ah h1);rw[c,qC j n a3]at b h2;refine⟨h.symm,.int k (k.wrap n),?_,by rw[<-b];exact .cell _ _ (Lv g k _ (gM h2))⟩;cases u<;>simp[execOp,ho,f,convert,jqa hs,jqa hd,Conv.intToInt]
def Pb{s d:TypeId}{x:Operand}{u:TypeDesc}(ho:o.op=.convert s d x)(hs:P.underlying s=some u)(hd:P.underlying d=some .string):OpV P K o (λst=>sel (Nat.beq (Nat.mod (rd st.T (cOp K x)) 16) 3) (.ok (rd st.T (cOp K x)) st) .no):=.pure λg st a w z st' _ _ i e=>by obtain⟨h1,e⟩:=ae e;injection e with f h;have b:=i x (by simp[ho,Op.operands]);have h1:rd st.T (cOp K x)%16=3:=ah h1;obtain⟨q,l,j,c,_⟩:=(b.aM oqo oqo oqo oqo).sZ h1;refine⟨h.symm,a.eval x,?_,by rw[<-f];exact b⟩;cases u<;>simp[execOp,ho,c,convert,jqa hs,jqa hd]
def ln(w:Nat):Nat:=Nat.mod (Nat.div w 16) 16777216
def sa(w:Nat):Nat:=Nat.div w 268435456
def Vt{st l:Nat}(h:l<16777216):ln (dE st l)=l:=by show dE st l/16%16777216=l;unfold dE;omega
def Vs{st l:Nat}(h:l<16777216):sa (dE st l)=st:=by show dE st l/268435456=st;unfold dE;omega
def TR.str{g:Gh}{R nR w:Nat}{v:Value}(h:TR g R nR w v)(hm:w%16=3):w=dE (sa w) (ln w)/\v=.string (strOf g.S (sa w) (ln w))/\ln w<16777216/\sa w+ln w<=g.nS/\sa w<4294967296:=by obtain⟨s,l,a,b,h1,h2,h3⟩:=(h.aM oqo oqo oqo oqo).sZ hm;subst a;rw[Vt h1,Vs h1];exact⟨rfl,b,h1,h2,h3⟩
def zR(S x y:Nat):Bool:=sel (Nat.beq x y) true (sel (Nat.beq (ln x) (ln y)) (Nat.beq (chS S (sa x) (ln x)) (chS S (sa y) (ln y))) false)
def yU{S x y:Nat}(_hx:x=dE (sa x) (ln x))(_hy:y=dE (sa y) (ln y)):zR S x y=decide (strOf S (sa x) (ln x)=strOf S (sa y) (ln y)):=by unfold zR;cases h1:Nat.beq x y with|true=>rw[aj,ah h1];simp|false=>rw[ag];cases h2:Nat.beq (ln x) (ln y)with|true=>have h2:=ah h2;rw[aj,qzd,qqu,h2,FE];exact Nat.beq_eq▸Iff.rfl|false=>rw[ag];symm;refine qqt λh=>gM h2 ?_;have:=jqp ByteArray.size h;rwa[gD,gD]at this
def VK(x y:ByteArray):(x.toList==y.toList)=decide (x=y):=by rw[ByteArray.toList_eq,ByteArray.toList_eq,qzd,jzb,qqu];exact⟨λh=>jjn (jxt h),λh=>by rw[h]⟩
def Eg(neg:Bool)(x y:Opd)(st:St):RS:=sel (Nat.beq (Nat.mod (rd st.T x) 16) 3) (sel (Nat.beq (Nat.mod (rd st.T y) 16) 3) (.ok (sel (zR st.S (rd st.T x) (rd st.T y)) (sel neg 1 17) (sel neg 17 1)) st) .no) .no
def Hf{t u:TypeId}{x y:Operand}(neg:Bool)(ho:o.op=.binOp (if neg then .neq else .eql) t x y u):OpV P K o (Eg neg (cOp K x) (cOp K y)):=.pure λg st a w z st' _ k c e=>by
 unfold Eg at e;obtain⟨h1,e⟩:=ae e;obtain⟨h2,e⟩:=ae e;injection e with b j;obtain⟨h,i,_⟩:=(c x (by simp[ho,Op.operands])).str (ah h1);obtain⟨b1,b2,_⟩:=(c y (by simp[ho,Op.operands])).str (ah h2);rw[yU h b1,k.S]at b;generalize strOf g.S (sa (rd st.T (cOp K x))) (ln (rd st.T (cOp K x)))=d at*;generalize strOf g.S (sa (rd st.T (cOp K y))) (ln (rd st.T (cOp K y)))=f at*;refine⟨j.symm,.bool (neg^^decide (d=f)),?_,?_⟩;·cases neg<;>simp[execOp,ho,i,b2,eqGuard_at_string,binOp,Op.stringOp,VK]
 ·rw[<-b];cases neg<;>cases decide (d=f)<;>first|exact .cell _ _ (.bool true)|exact .cell _ _ (.bool false)
def LJ(x y:Opd)(st:St):RS:=sel (Nat.beq (Nat.mod (rd st.T x) 16) 3) (sel (Nat.beq (Nat.mod (rd st.T y) 16) 3) (sel (Nat.blt (Nat.add (ln (rd st.T x)) (ln (rd st.T y))) 16777216) (sel (Nat.blt st.nS 4294967296)
  (fc (adS st.S st.nS (adS (chS st.S (sa (rd st.T x)) (ln (rd st.T x))) (ln (rd st.T x)) (chS st.S (sa (rd st.T y)) (ln (rd st.T y))))) λS=> .ok (dE st.nS (Nat.add (ln (rd st.T x)) (ln (rd st.T y)))) (setS S (Nat.add st.nS (Nat.add (ln (rd st.T x)) (ln (rd st.T y)))) st)) .no) .no) .no) .no
def SV{t u:TypeId}{x y:Operand}(ho:o.op=.binOp .add t x y u):OpV P K o (LJ (cOp K x) (cOp K y)):=λg st a w z st' _ k v e=>by
 unfold LJ at e;obtain⟨h1,e⟩:=ae e;obtain⟨h2,e⟩:=ae e;obtain⟨h3,e⟩:=ae e;obtain⟨m,e⟩:=ae e;rw[bX]at e;injection e with j d;obtain⟨n,l,a3,a4,a5⟩:=(v x (by simp[ho,Op.operands])).str (ah h1);obtain⟨b1,b2,p,q,r⟩:=(v y (by simp[ho,Op.operands])).str (ah h2);have h3:=aT h3;have m:=aT m;change ln (rd st.T (cOp K x))+ln (rd st.T (cOp K y))<_ at h3;change dE st.nS (ln (rd st.T (cOp K x))+ln (rd st.T (cOp K y)))=z at j;revert j d h3 n l a3 a4 a5 b1 b2 p q r;generalize ln (rd st.T (cOp K x))=b;generalize ln (rd st.T (cOp K y))=c;generalize sa (rd st.T (cOp K x))=f;generalize sa (rd st.T (cOp K y))=h;intro d n l a3 a4 a5 b1 b2 p q r h3 j;have A:=Bc (nG st.S f b) (nG st.S h c);obtain⟨B,C⟩:=k.pool (b+c) _ A;refine⟨_,w,.string (strOf g.S f b++strOf g.S h c),.inl ?_,⟨by rw[<-d];exact B,C,by rw[<-d];exact Ext.refl _ _,?_,by rw[<-d],by rw[<-d]⟩,λ_=>.inl rfl⟩;·simp only[execOp,ho,l,b2,qjm,eqGuard_at_string];simp[binOp,Op.stringOp,gD,IntKind.max,IntKind.signed,IntKind.bits];omega
 ·rw[<-j];refine .cell _ _ ?_;have s:∀i,i<b+c->aH (adS st.S st.nS (adS (chS st.S f b) b (chS st.S h c))) (st.nS+i)=if i<b then aH st.S (f+i)else aH st.S (h+(i-b)):=λi hi=>by
   rw[jX _ _ k.Slt,qzc oqo,show st.nS+i-st.nS=i by omega,jX _ _ (nG st.S f b)];by_cases hl:i<b;·rw[qzb hl,qzb hl,nu,qzb hl]
   ·rw[qzc hl,qzc hl,nu,qzb oqo]
  rw[Fj (adS st.S st.nS (adS (chS st.S f b) b (chS st.S h c))) st.nS (λi hi=>by rw[s i oqo,qzb hi,k.S])
   (λi hi=>by rw[jqu,s _ oqo,qzc oqo,show b+i-b=i by omega,k.S])];exact .str st.nS (b+c) h3 (qqf _) m
def MO(x y:Opd)(st:St):RS:=sel (Nat.beq (Nat.mod (rd st.T x) 16) 3) (sel (Nat.beq (Nat.mod (rd st.T y) 16) 2) (sel (Nat.ble 9223372036854775808 (Nat.div (rd st.T y) 256)) (sel (Nat.blt (Nat.sub (Nat.div (rd st.T y) 256) 9223372036854775808) (ln (rd st.T x)))
  (.ok (Nat.add 2361183241434822606914 (Nat.mul 256 (aH st.S (Nat.add (sa (rd st.T x)) (Nat.sub (Nat.div (rd st.T y) 256) 9223372036854775808))))) st) .no) .no) .no) .no
def Jq(b:Nat):ay .u8 (b:Int)=2361183241434822606914+256*b:=by show 2+16*4+256*((b:Int)+9223372036854775808).toNat=_;omega
def uX(b:Nat):ay .i64 (b:Int)=2361183241434822606898+256*b:=by show 2+16*3+256*((b:Int)+9223372036854775808).toNat=_;omega
def TR.ix{g:Gh}{R nR w:Nat}{v:Value}(h:TR g R nR w v)(hm:w%16=2)(h0:9223372036854775808<=w/256):∃k,v=.int k ((w/256-9223372036854775808:Nat):Int):=by obtain⟨k,n,a,b,h1,h2⟩:=h.int' hm;refine⟨k,?_⟩;have:=jy k;rw[b,a];rw[a]at h0;unfold ay at*;congr 1;omega
def Pz(S st l i:Nat)(h:i<l):(strOf S st l)[i]? =some (UInt8.ofNat (aH S (st+i))):=by
 have h1:i<(strOf S st l).size:=by rw[gD];exact h
 have h2:=bL S st l;rw[getElem?_pos _ i h1];have h3:(strOf S st l).data.toList[i]? =some (strOf S st l)[i]:=by rw[qqh (show i<(strOf S st l).data.toList.length from h1)];rfl
 rw[h2,qqp,qqz h]at h3;rw[<-h3];rfl
def byte_toNat(S i:Nat):(UInt8.ofNat (aH S i)).toNat=aH S i:=by rw[UInt8.toNat_ofNat'];exact qje (jK _ _)
def VP{t:TypeId}(ht:P.underlying t=some .string)(s:ByteArray)(k:IntKind)(i:Nat)(w:World){b:UInt8}(h:s[i]? =some b):(Instr.index t (.string s) (.int k (i:Int))).run P w=.ok (.int .u8 b.toNat) w:=by simp[Instr.index,asIntOf,jqa ht,h]
def RJ{t:TypeId}{x y:Operand}(ho:o.op=.index t x y)(ht:P.underlying t=some .string):OpV P K o (MO (cOp K x) (cOp K y)):=.pure λg st a w z st' _ j d e=>by
 unfold MO at e;obtain⟨h1,e⟩:=ae e;obtain⟨h2,e⟩:=ae e;obtain⟨h3,e⟩:=ae e;obtain⟨b,e⟩:=ae e;injection e with c h;obtain⟨l,f,a3,a4,a5⟩:=(d x (by simp[ho,Op.operands])).str (ah h1);have h3:=fF h3;have b:=aT b;simp only[nA,Ev.nS,nM,nD]at h3 b c;obtain⟨k,b2⟩:=(d y (by simp[ho,Op.operands])).ix (ah h2) h3;clear e h3;generalize rd st.T (cOp K y)/256-9223372036854775808=i at*;refine⟨h.symm,.int .u8 (aH g.S (sa (rd st.T (cOp K x))+i):Nat),?_,?_⟩;·have:=VP (P:=P) ht (strOf g.S (sa (rd st.T (cOp K x))) (ln (rd st.T (cOp K x)))) k i w (Pz _ _ _ _ b);rw[byte_toNat]at this;simp only[execOp,ho,f,b2,qjm,this,qjl];rfl
 ·rw[<-c,<-Jq,j.S];exact .cell _ _ (.int _ _ oqo (by have:=jK g.S (sa (rd st.T (cOp K x))+i);omega))
def LK(x:Opd)(st:St):RS:=sel (Nat.beq (Nat.mod (rd st.T x) 16) 3) (.ok (Nat.add 2361183241434822606898 (Nat.mul 256 (ln (rd st.T x)))) st) .no
def TW{t:TypeId}{x:Operand}(ho:o.op=.call {callee:=.builtin .len,args:=#[x],argTypes:=#[t]})(ht:P.underlying t=some .string):OpV P K o (LK (cOp K x)):=.pure λg st a w z st' _ _ f e=>by
 unfold LK at e;obtain⟨h1,e⟩:=ae e;injection e with c d;obtain⟨h,b,a3,a4,a5⟩:=(f x (by simp[ho,Op.operands,Call.operands])).str (ah h1);refine⟨d.symm,.int .i64 (ln (rd st.T (cOp K x)):Nat),?_,?_⟩;·simp[execOp,ho,resolve,invoke,builtin,Builtin.len_,jqa ht,b,gD,goInt]
 ·rw[<-c];change TR g st.R st.nR (2361183241434822606898+256*ln (rd st.T (cOp K x))) _;rw[<-uX];exact .cell _ _ (.int _ _ oqo oqo)
end
end Ev
