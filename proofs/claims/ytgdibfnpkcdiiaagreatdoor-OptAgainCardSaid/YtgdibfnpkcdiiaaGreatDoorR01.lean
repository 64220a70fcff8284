/- Joint text: OFix, OIter, OSimA, OSimB, OSimC, OSimD, OSimE, OSimF, OLit. By an AI agent. -/
import Derived.Test.YtgdibfnpkcdiiaaGreatDoorR00
set_option linter.all false
set_option maxRecDepth 100000
set_option maxHeartbeats 64000000
noncomputable section
namespace Go.Proofs.YtgdibfnpkcdiiaaGreatDoor
def ae.kF(arr:List Int)(b:ae)(x:In):Bool:=if x.op=2 then decide (b.num x.a=none/\x.v≠x.a)else if x.op=3 then decide (b.cB x.bin x.a x.b=none)&&decide (b.num x.a=none\/b.num x.b=none\/(b.num x.b=some 0/\(x.bin=4\/x.bin=5)))else if x.op=6 then(match b.num x.a with|some n=>decide (n<0\/oq arr x<=n)|none=>true)else if x.op=7 then decide (b.num x.a=none\/b.num x.a=some 0)else if x.op=14 then decide (b.num x.a=none)else true
theorem Om(arr:List Int)(b:ae)(x:In):b.qc arr x=((di x).all (λv=>decide (b.root v=v))&&b.kF arr x):=rfl
theorem dS(b:ae)(x:In):(b.rooted x).op=x.op:=by
 unfold ae.rooted;split;·rfl
 ·split;·rfl
  ·split<;>rfl
theorem NG(b:ae)(x:In):(b.rooted x).to=x.to:=by
 unfold ae.rooted;split;·rfl
 ·split;·rfl
  ·split<;>rfl
def gF(o:Nat):Nat:=if o=0 then 0 else if o=3 then 3 else if o=2\/o=14 then 2 else 1
theorem EY(x:In):(aJ x).op=0\/(aJ x=x/\x.v≠x.a):=by
 unfold aJ;split;·exact Or.inl rfl
 ·rename_i h;exact Or.inr ⟨rfl,h⟩
theorem xZ(b:ae)(x:In):(b.dQ x).op=0\/(b.dQ x).op=1\/(b.dQ x=x/\x.v≠x.a/\b.num x.a=none):=by
 unfold ae.dQ;split;·exact Or.inl rfl
 ·rename_i h;cases hn:b.num x.a with|some n=>exact Or.inr (Or.inl rfl)|none=>exact Or.inr (Or.inr ⟨rfl,h,rfl⟩)
theorem P7(x:In)(n m:Option Int):au x n m=x\/(au x n m).op=1\/au x n m=aJ (aQ x.v x.a)\/au x n m=aJ (aQ x.v x.b):=by
 have key:∀(c:Prop) [Decidable c](K:In->Prop)(y z:In),K y->K z->K (if c then y else z):=λc _ K y z h1 h2=>by
  by_cases hc:c;·rw[qzb hc];exact h1
  ·rw[qzc hc];exact h2
 unfold au;have k1:∀{y:In},y=aJ (aQ x.v x.a)->(y=x\/y.op=1\/y=aJ (aQ x.v x.a)\/y=aJ (aQ x.v x.b)):=λh=>Or.inr (Or.inr (Or.inl h));have k2:∀{y:In},y=aJ (aQ x.v x.b)->(y=x\/y.op=1\/y=aJ (aQ x.v x.a)\/y=aJ (aQ x.v x.b)):=λh=>Or.inr (Or.inr (Or.inr h));let K:=λy:In=>y=x\/y.op=1\/y=aJ (aQ x.v x.a)\/y=aJ (aQ x.v x.b);exact key _ K _ _ (k2 rfl) (key _ K _ _ (k1 rfl) (key _ K _ _ (k2 rfl) (key _ K _ _ (k1 rfl) (key _ K _ _ (Or.inr (Or.inl rfl)) (Or.inl rfl)))))
section
variable {D:Nat->Int->Int->Int}{arr:List Int}{b:ae}
theorem GV{x:In}(g:x.op=3):(b.gU D x).op=0\/(b.gU D x).op=1\/(∃a,b.gU D x=aQ x.v a/\x.v≠a/\(a=x.a\/a=x.b\/∃v,a=b.root v))\/(b.gU D x=x/\b.kF arr x=true):=by
 unfold ae.gU;split;·exact Or.inr (Or.inl rfl)
 ·rename_i hk;cases f:b.cB x.bin x.a x.b with|some v=>
   simp only[];split;·exact Or.inl rfl
   ·rcases xZ b (aQ x.v (b.root v))with h|h|⟨h,h2,_⟩;·exact Or.inl h
    ·exact Or.inr (Or.inl h)
    ·exact Or.inr (Or.inr (Or.inl ⟨_,h,h2,Or.inr (Or.inr ⟨v,rfl⟩)⟩))|none=>
   simp only[];rcases P7 x (b.num x.a) (b.num x.b)with h|h|h|h;·refine Or.inr (Or.inr (Or.inr ⟨h,?_⟩));unfold ae.kF;rw[qzc oqo,qzb g,f];simp only[decide_true,jzs,qqu];cases h1:b.num x.a with|none=>exact Or.inl rfl|some n=>cases h2:b.num x.b with|none=>exact Or.inr (Or.inl rfl)|some m=>refine Or.inr (Or.inr ?_);rw[h1,h2]at hk;simp only[qzn,true_and]at hk;refine⟨jqy λhc=>hk (Or.inl hc),jqy λhc=>hk (Or.inr ⟨λe=>hc (Or.inl e),λe=>hc (Or.inr e)⟩)⟩
   ·exact Or.inr (Or.inl h)
   ·rw[h];rcases EY (aQ x.v x.a)with h|⟨h,h2⟩;·exact Or.inl h
    ·exact Or.inr (Or.inr (Or.inl ⟨_,h,h2,Or.inl rfl⟩))
   ·rw[h];rcases EY (aQ x.v x.b)with h|⟨h,h2⟩;·exact Or.inl h
    ·exact Or.inr (Or.inr (Or.inl ⟨_,h,h2,Or.inr (Or.inl rfl)⟩))
theorem SK{x:In}(m:x.op≠0):gF (b.bE D arr x).op<gF x.op\/(b.bE D arr x=x/\b.kF arr x=true):=by
 by_cases h2:x.op=2
 ·have e:b.bE D arr x=b.dQ x:=by unfold ae.bE;rw[qzb h2]
  rw[e];rcases xZ b x with h|h|⟨h,h3,k⟩;·left;rw[h,h2];decide
  ·left;rw[h,h2];decide
  ·right;refine⟨h,?_⟩;unfold ae.kF;rw[qzb h2];simp[h3,k]
 by_cases h3:x.op=3
 ·have e:b.bE D arr x=b.gU D x:=by unfold ae.bE;rw[qzc h2,qzb h3]
  rw[e];rcases GV (D:=D) (arr:=arr) (b:=b) h3 with h|h|⟨a,h,_⟩|h;·left;rw[h,h3];decide
  ·left;rw[h,h3];decide
  ·left;rw[h,h3];show gF 2<gF 3;decide
  ·exact Or.inr h
 by_cases f:x.op=6
 ·have e:b.bE D arr x=(match b.num x.a with|some n=>if 0<=n/\n<oq arr x then{}else x|none=>x):=by unfold ae.bE;rw[qzc h2,qzc h3,qzb f];rfl
  have j:b.kF arr x=(match b.num x.a with|some n=>decide (n<0\/oq arr x<=n)|none=>true):=by unfold ae.kF;rw[qzc h2,qzc h3,qzb f]
  rw[e,j];cases hn:b.num x.a with|none=>exact Or.inr ⟨rfl,rfl⟩|some n=>
   simp only[];split;·left;rw[f];decide
   ·right;exact⟨rfl,by simp only[qqu];omega⟩
 by_cases g:x.op=7
 ·have e:b.bE D arr x=(match b.num x.a with|some n=>if n≠0 then{}else x|none=>x):=by unfold ae.bE;rw[qzc h2,qzc h3,qzc f,qzb g];rfl
  have j:b.kF arr x=decide (b.num x.a=none\/b.num x.a=some 0):=by unfold ae.kF;rw[qzc h2,qzc h3,qzc f,qzb g]
  rw[e,j];cases hn:b.num x.a with|none=>exact Or.inr ⟨rfl,by simp⟩|some n=>
   simp only[];split;·left;rw[g];decide
   ·rename_i h0;right;exact⟨rfl,by simp at h0;simp[h0]⟩
 by_cases i:x.op=14
 ·have e:b.bE D arr x=(match b.num x.a with|some n=>if n=0 then{op:=13,to:=x.to}else{}|none=>x):=by unfold ae.bE;rw[qzc h2,qzc h3,qzc f,qzc g,qzb i];rfl
  have j:b.kF arr x=decide (b.num x.a=none):=by unfold ae.kF;rw[qzc h2,qzc h3,qzc f,qzc g,qzb i]
  rw[e,j];cases hn:b.num x.a with|none=>exact Or.inr ⟨rfl,by simp⟩|some n=>
   simp only[];split;·left;rw[i];show gF 13<gF 14;decide
   ·left;rw[i];show gF 0<gF 14;decide
 ·right;refine⟨by unfold ae.bE;rw[qzc h2,qzc h3,qzc f,qzc g,qzc i],by unfold ae.kF;rw[qzc h2,qzc h3,qzc f,qzc g,qzc i]⟩
theorem oL{x:In}(a:x.op≠0):gF (b.shorter D arr x).op<gF x.op\/(b.shorter D arr x=b.rooted x/\b.kF arr (b.rooted x)=true):=by have:=SK (D:=D) (arr:=arr) (b:=b) (x:=b.rooted x) (by rw[dS];exact a);rw[dS]at this;exact this
def ae.Rt(b:ae):Prop:=∀v o,b.cp v=some o->b.cp o=none
theorem ae.Rt.root(h:b.Rt)(v:Int):b.cp (b.root v)=none:=by unfold ae.root;cases e:b.cp v with|none=>exact e|some o=>exact h v o e
theorem ae.Rt.idem(h:b.Rt)(v:Int):b.root (b.root v)=b.root v:=by have:=h.root v;show(b.cp (b.root v)).getD (b.root v)=b.root v;rw[this];rfl
theorem ae.KP:ae.new.Rt:=λ_ _ h=>by cases h
theorem jS{x:In}(b:ae)(h:hasB x.op=true):b.rooted x={x with a:=b.root x.a,b:=b.root x.b}:=by unfold ae.rooted;rw[qzb h]
theorem lu{x:In}(b:ae)(h:¬hasB x.op=true)(h2:fe x.op=true):b.rooted x={x with a:=b.root x.a}:=by unfold ae.rooted;rw[qzc h,qzb h2]
theorem sF{x:In}(b:ae)(h:¬hasB x.op=true)(h2:¬fe x.op=true)(h3:x.op=11):b.rooted x={x with args:=x.args.map b.root}:=by unfold ae.rooted;rw[qzc h,qzc h2,qzb h3]
theorem yt{x:In}(b:ae)(h:¬hasB x.op=true)(h2:¬fe x.op=true)(h3:¬x.op=11):b.rooted x=x:=by unfold ae.rooted;rw[qzc h,qzc h2,qzc h3]
theorem ae.Rt.rooted(h:b.Rt)(x:In):b.rooted (b.rooted x)=b.rooted x:=by
 by_cases e:hasB x.op=true;·rw[jS b e,jS b (x:={x with a:=b.root x.a,b:=b.root x.b}) e];show({x with a:=b.root (b.root x.a),b:=b.root (b.root x.b)}:In)=_;rw[h.idem,h.idem]
 ·by_cases f:fe x.op=true;·rw[lu b e f,lu b (x:={x with a:=b.root x.a}) e f];show({x with a:=b.root (b.root x.a)}:In)=_;rw[h.idem]
  ·by_cases g:x.op=11;·rw[sF b e f g,sF b (x:={x with args:=x.args.map b.root}) e f g];show({x with args:=(x.args.map b.root).map b.root}:In)=_;rw[qzx,show b.root∘b.root=b.root from funext h.idem]
   ·rw[yt b e f g,yt b e f g]
theorem ae.Rt.put(h:b.Rt)(v:Int):(b.put v).Rt:=λx o e=>by
 simp only[ae.put]at e⊢;split at e;·cases e
 ·split at e;·cases e
  ·rw[h x o e];simp
def ae.Vf(b:ae)(y:In):Prop:=y.op=2->b.cp y.a=none/\y.v≠y.a
theorem ae.Rt.does(h:b.Rt){y:In}(m:b.Vf y):(b.does y).Rt:=by
 unfold ae.does bG;by_cases i:eU y.op=true
 ·rw[qzb i];have a:=h.put y.v;have g:∀c:ae,c.Rt->∀v n,(c.jw v n).Rt:=λc hc v n=>hc;simp only[];split;·exact g _ a _ _
  ·split
   ·rename_i h2;obtain⟨r,s⟩:=m h2;have f:((b.put y.v).aZ y.v y.a).Rt:=λu o e=>by
     have k:∀z,b.cp z=none->(b.put y.v).cp z=none:=λz hz=>by simp[ae.put,hz]
     simp only[ae.aZ]at e⊢;split at e;·cases e;rw[qzc (λe=>s e.symm)];exact k _ r
     ·have ho:o≠y.v:=λho=>by
       subst ho;simp only[ae.put]at e;split at e;·cases e
       ·split at e;·cases e
        ·rename_i j;exact j e
      rw[qzc ho];exact a u o e
    split;·exact g _ f _ _
    ·exact f
   ·split
    ·split;·exact a
     ·exact a
    ·exact a
 ·rw[qzc i];exact h
theorem Jl(h:b.Rt)(x:In)(j:x.op≠0):b.Vf (b.shorter D arr x):=λh2=>by
 have hr:=dS b x;by_cases g:x.op=2
 ·have e:b.shorter D arr x=b.dQ (b.rooted x):=by unfold ae.shorter ae.bE;rw[qzb (by rw[hr];exact g)]
  rw[e]at h2⊢;rcases xZ b (b.rooted x)with q|q|⟨q,i,_⟩;·rw[q]at h2;cases h2
  ·rw[q]at h2;cases h2
  ·rw[q];refine⟨?_,i⟩;have:(b.rooted x).a=b.root x.a:=by unfold ae.rooted;rw[g];rfl
   rw[this];exact h.root _
 by_cases f:x.op=3
 ·have e:b.shorter D arr x=b.gU D (b.rooted x):=by unfold ae.shorter ae.bE;rw[qzc (by rw[hr];exact g),qzb (by rw[hr];exact f)]
  have m:(b.rooted x).a=b.root x.a:=by unfold ae.rooted;rw[f];rfl
  have n:(b.rooted x).b=b.root x.b:=by unfold ae.rooted;rw[f];rfl
  rw[e]at h2⊢;rcases GV (D:=D) (arr:=arr) (b:=b) (x:=b.rooted x) (by rw[hr];exact f)with q|q|⟨a,q,i,k⟩|⟨q,_⟩;·rw[q]at h2;cases h2
  ·rw[q]at h2;cases h2
  ·rw[q];refine⟨?_,i⟩;show b.cp a=none;rcases k with rfl|rfl|⟨v,rfl⟩;·rw[m];exact h.root _
   ·rw[n];exact h.root _
   ·exact h.root _
  ·rw[q,hr,f]at h2;cases h2
 ·exfalso;rcases oL (D:=D) (arr:=arr) (b:=b) j with q|⟨q,_⟩
  ·rw[h2]at q;have:gF 2=2:=rfl;rw[this]at q;have:x.op=3:=jqy λhc=>by
    unfold gF at q;rw[qzc j,qzc hc]at q;by_cases hd:x.op=2\/x.op=14;·rw[qzb hd]at q;exact absurd q (by decide)
    ·rw[qzc hd]at q;exact absurd q (by decide)
   exact f this
  ·rw[q,hr]at h2;exact g h2
def dG(l:List In):Nat:=(l.map λx=>gF x.op).sum
theorem qj{o:Nat}:gF o=0↔o=0:=by
 unfold gF;constructor
 ·intro h;split at h;·assumption
  ·split at h;·omega
   ·split at h<;>omega
 ·intro h;rw[qzb h]
def pJ(l a:List In):Prop:=l.map (λx=>(x.op,x.to))=a.map (λx=>(x.op,x.to))
theorem Kn{l a:List In}(h:pJ l a):dh l=dh a:=by
 funext i;have e:∀j:Nat,(l[j]?).map (λx=>(x.op,x.to))=(a[j]?).map (λx=>(x.op,x.to)):=λj=>by rw[<-qqp,<-qqp];unfold pJ at h;rw[h]
 have ha:∀t:List In,t.any (λx=>(x.op==13||x.op==14)&&x.to.toNat==i)=(t.map λx=>(x.op,x.to)).any (λy=>(y.1==13||y.1==14)&&y.2.toNat==i):=λt=>by rw[List.any_map];rfl
 unfold dh;rw[ha l,ha a,h];congr 1;cases i with|zero=>rfl|succ j=>have:=e j;simp only[];cases h1:l[j]? with
  |none=>cases h2:a[j]? with|none=>rfl|some y=>rw[h1,h2]at this;cases this
  |some x=>cases h2:a[j]? with|none=>rw[h1,h2]at this;cases this|some y=>rw[h1,h2]at this;simp only[jqb,qzk,Prod.mk.injEq]at this;simp only[this.1]
variable {lead:Nat->Bool}
theorem uh:∀(l:List In)(i:Nat)(b:ae),(∀x∈l,x.op≠0)->dG (bD D arr lead i b l)<=dG l/\(dG (bD D arr lead i b l)=dG l->pJ (bD D arr lead i b l) l)
 |[],_,_,_=>⟨qqf _,λ_=>rfl⟩|x::l,i,b,hl=>by
  have ih:=uh l (i+1) ((if lead i then ae.new else b).does ((if lead i then ae.new else b).shorter D arr x)) λy f=>hl y (by simp[f]);have hs:=oL (D:=D) (arr:=arr) (b:=if lead i then ae.new else b) (hl x (by simp));unfold dG at ih⊢;simp only[bD,jqw,List.sum_cons];have hr:gF ((if lead i then ae.new else b).shorter D arr x).op<=gF x.op:=by
   rcases hs with h|⟨h,_⟩;·omega
   ·rw[h,dS];exact qqf _
  refine⟨by omega,λe=>?_⟩;have a:=ih.2 oqo;rcases hs with h|⟨h,_⟩;·omega
  ·unfold pJ at a⊢;simp only[jqw];rw[a,h,dS,NG]
theorem uM:∀(l:List In)(i:Nat)(b:ae),b.Rt->(∀x∈l,x.op≠0)->pJ (bD D arr lead i b l) l->bD D arr lead i b (bD D arr lead i b l)=bD D arr lead i b l
 |[],_,_,_,_,_=>rfl|x::l,i,b,g,hl,ha=>by
  have a:(if lead i then ae.new else b).Rt:=by
   split;·exact ae.KP
   ·exact g
  have e:=hl x (by simp);have hs:=oL (D:=D) (arr:=arr) (b:=if lead i then ae.new else b) e;have hc:=Jl (D:=D) (arr:=arr) a x e;unfold pJ at ha;simp only[bD,jqw,jxg,Prod.mk.injEq]at ha;rcases hs with h|⟨h,_⟩;·rw[ha.1.1]at h;omega
  have ih:=uM l (i+1) _ (a.does hc) (λy j=>hl y (by simp[j])) ha.2;have h2:(if lead i then ae.new else b).shorter D arr ((if lead i then ae.new else b).shorter D arr x)=(if lead i then ae.new else b).shorter D arr x:=by
   have f:(if lead i then ae.new else b).rooted ((if lead i then ae.new else b).shorter D arr x)=(if lead i then ae.new else b).rooted x:=by rw[h];exact a.rooted x
   show ae.bE D arr (if lead i then ae.new else b) ((if lead i then ae.new else b).rooted ((if lead i then ae.new else b).shorter D arr x))=_;rw[f];rfl
  simp only[bD];rw[h2,ih]
theorem NL:∀(i:Nat)(l r:List In),(∀x∈dP i l r,x.op≠0)->dP i l r=r
 |_,_,[],_=>rfl|_,_,[x],_=>rfl|i,l,x::y::r,h=>by
  simp only[dP]at h⊢;rw[NL (i+1) l (y::r) λz hz=>h z (by simp[hz])];split;·rename_i hc;exact absurd rfl (h _ (by rw[qzb hc];exact List.mem_cons_self ..))
  ·rfl
theorem MI{l:List In}{F:Nat->In}(hF:∀i,i<l.length->F i={}\/F i=l.getD i {})(h:∀x∈(List.range l.length).map F,x.op≠0):(List.range l.length).map F=l:=by
 apply jqq;intro i;rw[qqp];by_cases hi:i<l.length
 ·rw[qqz hi,jqb];rcases hF i hi with e|e;·exact absurd (by rw[e]) (h (F i) (qjb.2 ⟨i,qzg.2 hi,rfl⟩))
  ·rw[e,qqm,qqh hi];rfl
 ·rw[qza (by simp;omega),qza oqo];rfl
theorem TM{l:List In}(h:∀x∈bL l,x.op≠0):bL l=l:=MI (λi _=>by
 by_cases h:eO (l.getD i {})=true/\¬Live l (i+1) (l.getD i {}).v;·rw[qzb h];exact Or.inl rfl
 ·rw[qzc h];exact Or.inr rfl) h
theorem JI{l:List In}(h:∀x∈bn l,x.op≠0):bn l=l:=MI (λi _=>by
 by_cases h:¬Reach l i/\i+1<l.length;·rw[qzb h];exact Or.inl rfl
 ·rw[qzc h];exact Or.inr rfl) h
theorem Er{l:List In}(h:∀x∈dH l,x.op≠0):bn l=l/\bL l=l/\mg l=l/\dH l=l:=by have h1:mg (bL (bn l))=bL (bn l):=NL _ _ _ h;have a:dH l=bL (bn l):=h1;have h2:bL (bn l)=bn l:=TM (by rw[<-a];exact h);have h3:bn l=l:=JI (by rw[<-h2,<-a];exact h);rw[h3]at h1 h2 a;rw[h2]at h1 a;exact⟨h3,h2,h1,a⟩
theorem Lr{l:List In}(h:∀x∈l,x.op≠0)(ht:∀x∈l,x.op=13\/x.op=14->0<=x.to/\x.to<l.length):bT l=l:=by
 have hf:∀t:List In,(∀x∈t,x.op≠0)->t.filter (λx=>x.op !=0)=t:=λt ht=>List.filter_eq_self.2 λx f=>by simpa using ht x f
 unfold bT;rw[hf l h];conv=>rhs;rw[<-List.map_id l]
 apply jqg;intro x f;by_cases a:x.op=13\/x.op=14
 ·rw[qzb a];have:=ht x f a;have e:atW l x.to.toNat=x.to.toNat:=by unfold atW;rw[hf _ λy g=>h y (List.mem_of_mem_take g),jqm];omega
  rw[e];show({x with to:=((x.to.toNat:Nat):Int)}:In)=x;rw[show((x.to.toNat:Nat):Int)=x.to by omega]
 ·rw[qzc a];rfl
theorem CF(l:List In):dG (bT l)=dG l:=by
 unfold bT dG;rw[qzx];have:∀t:List In,(((t.filter λx=>x.op !=0)).map ((λx:In=>gF x.op)∘λx=>if x.op=13\/x.op=14 then{x with to:=((atW l x.to.toNat:Nat):Int)}else x)).sum=(t.map λx=>gF x.op).sum:=λt=>by induction t with|nil=>rfl|cons x t ih=>
   rw[jzr,jqw,List.sum_cons];by_cases a:x.op=0;·rw[qzc (by simp[a]),ih,qj.2 a];omega
   ·rw[qzb (by simpa using a),jqw,List.sum_cons,ih];congr 1;show gF (if x.op=13\/x.op=14 then{x with to:=((atW l x.to.toNat:Nat):Int)}else x:In).op=_;split<;>rfl
 exact this l
theorem kT:∀(l a:List In),l.length=a.length->(∀i,i<l.length->a.getD i {}={}\/a.getD i {}=l.getD i {})->dG a<=dG l/\(dG a=dG l->(∀x∈l,x.op≠0)->∀x∈a,x.op≠0)
 |[],[],_,_=>⟨qqf _,λ_ _ x f=>by cases f⟩|[],_::_,h,_=>by simp at h|_::_,[],h,_=>by simp at h|x::l,y::a,h,hs=>by
  have ih:=kT l a (by simpa using h) λi hi=>by simpa using hs (i+1) (by simp;omega)
  have h0:=hs 0 (by simp);simp only[List.getD_cons_zero]at h0;unfold dG at ih⊢;simp only[jqw,List.sum_cons];rcases h0 with rfl|rfl;·refine⟨by rw[qj.2 rfl];omega,λe hn z hz=>?_⟩;have f:=hn x (by simp);have:gF x.op≠0:=λe=>f (qj.1 e);rw[qj.2 rfl]at e;omega
  ·refine⟨by omega,λe hn z hz=>?_⟩;rcases qzh.1 hz with rfl|hz;·exact hn z (by simp)
   ·exact ih.2 oqo (λu hu=>hn u (by simp[hu])) z hz
theorem sH:∀(i:Nat)(l r:List In)(j:Nat),(dP i l r).getD j {}={}\/(dP i l r).getD j {}=r.getD j {}
 |_,_,[],j=>Or.inr rfl|_,_,[x],j=>Or.inr rfl|i,l,x::y::r,0=>by
  simp only[dP,List.getD_cons_zero];by_cases hc:x.op=13/\(i:Int)<x.to/\ku l (i+1) x.to.toNat=true;·rw[qzb hc];exact Or.inl rfl
  ·rw[qzc hc];exact Or.inr rfl|i,l,x::y::r,j+1=>by simp only[dP,List.getD_cons_succ];exact sH (i+1) l (y::r) j
theorem zM{l:List In}{F:Nat->In}(hF:∀i,i<l.length->F i={}\/F i=l.getD i {})(i:Nat)(hi:i<l.length):((List.range l.length).map F).getD i {}={}\/((List.range l.length).map F).getD i {}=l.getD i {}:=by rw[qqm,qqp,qqz hi];exact hF i hi
theorem DZ(l:List In):dG (dH l)<=dG l/\(dG (dH l)=dG l->(∀x∈l,x.op≠0)->∀x∈dH l,x.op≠0):=by
 have h1:=kT l (bn l) (by rw[kR]) (zM λi _=>by
  by_cases h:¬Reach l i/\i+1<l.length;·rw[qzb h];exact Or.inl rfl
  ·rw[qzc h];exact Or.inr rfl);have h2:=kT (bn l) (bL (bn l)) (by rw[tC]) (zM λi _=>by
  by_cases h:eO ((bn l).getD i {})=true/\¬Live (bn l) (i+1) ((bn l).getD i {}).v;·rw[qzb h];exact Or.inl rfl
  ·rw[qzc h];exact Or.inr rfl);have h3:=kT (bL (bn l)) (dH l) (by rw[nZ,tC,kR]) (λi _=>sH _ _ _ i);exact⟨by omega,λe hn=>h3.2 oqo (h2.2 oqo (h1.2 oqo hn))⟩
structure dD(p:PrW)(f:FnP)(l:List In):Prop where
 one:∀x∈l,dJ p f x=true
 len:f.code.length=l.length
 last:∃x,l.getLast? =some x/\x.op=12
theorem dD.nz{p:PrW}{f:FnP}{l:List In}(h:dD p f l):∀x∈l,x.op≠0:=λx a=>by have:=(cz.1 (h.one x a)).1;omega
theorem dD.within{p:PrW}{f:FnP}{l:List In}(h:dD p f l):∀y∈aG D arr l,okI p f y:=BI l 0 _ (ae.nY _) h.one
theorem dD.back{p:PrW}{f:FnP}{l a:List In}(h:dD p f l)(hl:a.length=l.length)(ho:∀y∈a,okI p f y)(hn:∀y∈a,y.op≠0):bT a=a:=Lr hn λx e g=>by
  rcases ho x e with rfl|h1;·exact absurd rfl (hn _ e)
  ·have:=rD h1 (by unfold iG;simpa using g);rw[h.len,<-hl]at this;exact this
theorem FQ{p:PrW}{f:FnP}{l:List In}(h:dD p f l):dG (bz D arr l)<=dG l/\(dG (bz D arr l)=dG l->bz D arr (bz D arr l)=bz D arr l):=by
 have hw:=uh (D:=D) (arr:=arr) (lead:=dh l) l 0 .new h.nz;have hs:=DZ (aG D arr l);have r:=CF (dH (aG D arr l));have m:aG D arr l=bD D arr (dh l) 0 .new l:=rfl;have g:bz D arr l=bT (dH (aG D arr l)):=rfl;rw[<-m]at hw;rw[<-g]at r;refine⟨by omega,λe=>?_⟩;have ha:=hw.2 oqo;have j:∀x∈aG D arr l,x.op≠0:=λx s u=>by
  have:(x.op,x.to)∈l.map (λx=>(x.op,x.to)):=by unfold pJ at ha;rw[<-ha];exact qjb.2 ⟨x,s,rfl⟩
  obtain⟨y,t,a⟩:=qjb.1 this;have:y.op=x.op:=jqi Prod.fst a;exact h.nz y t oqo
 have o:=hs.2 oqo j;have hS:=(Er o).2.2.2;have n:(aG D arr l).length=l.length:=iQ _ _ _ _ _ _;have i:bT (aG D arr l)=aG D arr l:=h.back n h.within j;have a:bz D arr l=aG D arr l:=by rw[g,hS,i]
 have k:aG D arr (aG D arr l)=aG D arr l:=by show bD D arr (dh (aG D arr l)) 0 .new (aG D arr l)=_;rw[Kn ha];exact uM l 0 _ ae.KP h.nz ha
 rw[a];show bT (dH (aG D arr (aG D arr l)))=_;rw[k,hS,i]
theorem F8{l:List In}:∀(r:List In)(i:Nat)(b:ae),(∀j,r[j]? =l[i+j]?)->(∀x∈r,x.op≠0)->bD D arr (dh l) i b r=r->(∀j x,l[j]? =some x->¬(¬Reach l j/\j+1<l.length)/\¬(eO x=true/\¬Live l (j+1) x.v)/\¬(x.op=13/\x.to=(j:Int)+1))->mQ arr l i b r=true
 |[],_,_,_,_,_,_=>rfl|x::r,i,b,hr,hn,hw,hc=>by
  simp only[bD,jxg]at hw;obtain⟨m,hw⟩:=hw;have hi:l[i]? =some x:=by rw[<-qzz i,<-hr 0];rfl
  obtain⟨c1,c2,c3⟩:=hc i x hi;rw[m]at hw;have ih:=F8 r (i+1) _ (λj=>by rw[show i+1+j=i+(j+1)by omega,<-hr (j+1)];rfl) (λy s=>hn y (by simp[s])) hw hc;have o:(if dh l i then ae.new else b).qc arr x=true:=by
   rcases oL (D:=D) (arr:=arr) (b:=if dh l i then ae.new else b) (hn x (by simp))with q|⟨q,n⟩;·rw[m]at q;omega
   ·rw[m]at q;rw[<-q]at n;rw[Om,n,Bool.and_true,qqw];intro v hv;rw[qqu];unfold di at hv;by_cases a:hasB x.op=true
    ·rw[qzb a]at hv;rw[jS _ a]at q;have e:=jqi In.a q;have u:=jqi In.b q;simp only[qzh,qjh,jxo]at hv;rcases hv with rfl|rfl;·exact e.symm
     ·exact u.symm
    ·rw[qzc a]at hv;by_cases f:fe x.op=true;·rw[qzb f]at hv;rw[lu _ a f]at q;have e:=jqi In.a q;simp only[qzh,qjh,jxo]at hv;subst hv;exact e.symm
     ·rw[qzc f]at hv;by_cases g:x.op=11;·rw[qzb g]at hv;rw[sF _ a f g]at q;have e:=jqi In.args q;obtain⟨j,hj⟩:=jqr.1 hv;have:=jqi (λt:List Int=>t[j]?) e;simp only[qqp,hj,jqb,qzk]at this;exact this.symm
      ·rw[qzc g]at hv;cases hv
  simp only[mQ];rw[ih,Bool.and_true,o];simp only[Bool.not_true,Bool.or_false,qjj,Bool.or_eq_false_iff,jzl,Bool.and_eq_false_iff];refine⟨⟨c1,?_⟩,?_⟩;·cases k:eO x with|false=>exact Or.inl rfl|true=>exact Or.inr λh=>c2 ⟨k,h⟩
  ·cases k:x.op==13 with|false=>exact Or.inl rfl|true=>exact Or.inr λh=>c3 ⟨by simpa using k,h⟩
theorem MQ{p:PrW}{f:FnP}{l:List In}(h:dD p f l)(hr:bz D arr l=l):lK arr l=true:=by
 have k:bz D arr l=bT (dH (aG D arr l)):=rfl;have s:(aG D arr l).length=l.length:=iQ _ _ _ _ _ _;have g:∀x∈dH (aG D arr l),x.op≠0:=by have h1:=tJ (dH (aG D arr l));rw[<-k,hr]at h1;unfold atW at h1;rw[List.take_length]at h1;have h2:=List.length_filter_eq_length_iff.1 (show((dH (aG D arr l)).filter λx=>x.op !=0).length=(dH (aG D arr l)).length by rw[<-h1,nZ,s]);intro x a;simpa using h2 x a
 obtain⟨v,w,A,B⟩:=Er g;rw[B]at g;have C:bT (aG D arr l)=aG D arr l:=h.back s h.within g;have n:aG D arr l=l:=by rw[<-C,<-B,<-k,hr]
 rw[n]at v w A;refine F8 (D:=D) l 0 .new (λj=>by rw[qja]) h.nz n λj x hj=>?_;have o:=(qqi.1 hj).1;have a:=h.nz x (qqr hj);have E:l.getD j {}=x:=by rw[qqm,hj];rfl
 refine⟨λhc=>?_,λhc=>?_,λhc=>?_⟩;·have:=jqi (λt:List In=>t[j]?) v;simp only[bn,qqp,qqz o,jqb,hj,qzk]at this;rw[qzb hc]at this;rw[<-this]at a;exact a rfl
 ·have:=jqi (λt:List In=>t[j]?) w;simp only[bL,qqp,qqz o,jqb,hj,qzk]at this;rw[qzb (by rw[E];exact hc)]at this;rw[<-this]at a;exact a rfl
 ·have key:∀(r:List In)(i j:Nat)(x:In),r[j]? =some x->dP i l r=r->x.op≠0->x.op=13->x.to=((i+j:Nat):Int)+1->j+1=r.length:=by intro r;induction r with|nil=>intro i j x hj;simp at hj|cons y r ih=>intro i j x hj e a m F;cases r with
    |nil=>cases j with|zero=>rfl|succ j=>simp at hj
    |cons z r=>simp only[dP,jxg]at e;cases j with|zero=>simp at hj;subst hj;exfalso;rw[qzb ⟨m,by omega,by unfold ku;rw[show y.to.toNat=i+1 by omega];simp⟩]at e;rw[<-e.1]at a;exact a rfl|succ j=>have:=ih (i+1) j x (by simpa using hj) e.2 a m (by rw[F];congr 1;omega);simp only[qzv]at this⊢;omega
  have G:=key l 0 j x hj A a hc.1 (by rw[qja];exact hc.2);obtain⟨z,hz,u⟩:=h.last;rw[jxb,show l.length-1=j by omega,hj]at hz;cases hz;rw[hc.1]at u;cases u
end
section
variable {D:Nat->Int->Int->Int}{arr:List Int}
def dX(D:Nat->Int->Int->Int)(arr:List Int):Nat->List In->List In|0,l=>l|n+1,l=>bz D arr (dX D arr n l)
theorem xV{l:List In}(h:∃x,l.getLast? =some x/\x.op=12):∃x,(aG D arr l).getLast? =some x/\x.op=12:=xB l 0 _ h
theorem MB(l:List In):(bz D arr l).length<=l.length:=by show(bT (dH (aG D arr l))).length<=_;rw[tJ];have h:(aG D arr l).length=l.length:=iQ _ _ _ _ _ _;unfold atW;refine qzi (jzy _ _) ?_;rw[jqm,nZ,h];omega
theorem PK{p:PrW}{f:FnP}{l:List In}(h:dD p f l):dD p {f with code:=bz D arr l} (bz D arr l):=by
 obtain⟨x,i,a⟩:=xV (D:=D) (arr:=arr) h.last;have hs:=JL i a;have g:(aG D arr l).length=l.length:=iQ _ _ _ _ _ _;refine⟨Mq (f:=f) (p:=p) (p':=p) (l:=dH (aG D arr l)) rfl (by rw[nZ,g,h.len]) rfl rfl rfl (λy j=>?_) hs a,rfl,⟨x,Gf hs a,a⟩⟩;rcases ve y j with e|e;·exact Or.inl e
 ·exact h.within y e
theorem pW(l:List In):∀n,(dX D arr n l).length<=l.length|0=>qqf _|n+1=>qzi (MB _) (pW l n)
theorem rO{p:PrW}{f:FnP}(h:dD p f f.code):∀n,dD p {f with code:=dX D arr n f.code} (dX D arr n f.code)|0=>h|n+1=>PK (f:={f with code:=dX D arr n f.code}) (rO h n)
theorem Dx{l:List In}(h:bz D arr l=l):∀n,dX D arr n l=l|0=>rfl|n+1=>by show bz D arr (dX D arr n l)=l;rw[Dx h n,h]
open Classical in def kS(D:Nat->Int->Int->Int)(arr:List Int)(l:List In):Nat:=2*dG l+(if bz D arr l=l then 0 else 1)
theorem Ud{p:PrW}{f:FnP}{l:List In}(h:dD p f l)(hn:bz D arr l≠l):kS D arr (bz D arr l)<kS D arr l:=by
 obtain⟨h1,h2⟩:=FQ (D:=D) (arr:=arr) h;unfold kS;rw[qzc hn];by_cases e:dG (bz D arr l)=dG l;·rw[qzb (h2 e)];omega
 ·split<;>omega
end
structure fD(D:Nat->Int->Int->Int)(p q:PrW):Prop where
 arrays:q.arrays=p.arrays
 main:q.main=p.main
 len:q.fns.length=p.fns.length
 fn:∀(i:Nat)(f g:FnP),p.fns[i]? =some f->q.fns[i]? =some g->g.name=f.name/\g.params=f.params/\g.vars=f.vars/\(∃n,g.code=dX D p.arrays n f.code)/\bz D p.arrays g.code=g.code
theorem mI{p:PrW}(h:bB p=true){f:FnP}(hf:f∈p.fns):fnW p f=true:=by unfold bB at h;simp only[qqn,qqw]at h;exact h.2 f hf
theorem gX{p:PrW}(h:bB p=true){f:FnP}(hf:f∈p.fns):dD p f f.code:=by have h1:=mI h hf;unfold fnW at h1;simp only[qqn,qqw]at h1;refine⟨h1.2,rfl,?_⟩;have h2:=h1.1.2;unfold ky at h2;cases hl:f.code.getLast? with|none=>rw[hl]at h2;cases h2|some x=>rw[hl]at h2;exact⟨x,rfl,by simpa using h2⟩
section
variable {D:Nat->Int->Int->Int}{p q:PrW}
theorem fD.at(h:fD D p q){i:Nat}{g:FnP}(a:q.fns[i]? =some g):∃f,p.fns[i]? =some f/\g.name=f.name/\g.params=f.params/\g.vars=f.vars/\(∃n,g.code=dX D p.arrays n f.code)/\bz D p.arrays g.code=g.code:=by have hi:=(qqi.1 a).1;rw[h.len]at hi;exact⟨p.fns[i],qqh hi,h.fn i _ g (qqh hi) a⟩
theorem fD.params(h:fD D p q):q.fns.map (·.params)=p.fns.map (·.params):=by apply jqq;intro i;rw[qqp,qqp];cases a:q.fns[i]? with|none=>rw[List.getElem?_eq_none_iff]at a;rw[qza (by rw[<-h.len];exact a)]|some g=>obtain⟨f,hf,_,e,_⟩:=h.at a;rw[hf];simp[e]
theorem ym{f:FnP}{x:In}(ha:q.arrays=p.arrays)(hf:q.fns.map (·.params)=p.fns.map (·.params)):dJ q f x=dJ p f x:=by
 have hn:q.fns.length=p.fns.length:=by have:=jqi List.length hf;simpa using this
 have hm:fG q x=fG p x:=by
  unfold fG;have:∀i:Nat,(q.fns[i]?).map (·.params)=(p.fns[i]?).map (·.params):=λi=>by rw[<-qqp,<-qqp,hf]
  rw[this]
 unfold dJ;rw[hn,ha,hm]
theorem fD.codeOk(h:fD D p q)(r:bB p=true){g:FnP}(o:g∈q.fns):dD q g g.code/\bz D q.arrays g.code=g.code/\∃f,f∈p.fns/\g.params=f.params/\g.vars=f.vars/\g.code.length<=f.code.length:=by obtain⟨i,hi⟩:=jqr.1 o;obtain⟨f,hf,_,k,a,⟨n,e⟩,m⟩:=h.at hi;have j:=qqr hf;have hc:=rO (D:=D) (arr:=p.arrays) (gX r j) n;rw[<-e]at hc;refine⟨⟨λx s=>?_,rfl,hc.last⟩,by rw[h.arrays];exact m,f,j,k,a,by rw[e];exact pW _ n⟩;rw[ym h.arrays h.params];have:=hc.one x s;rw[cz]at this⊢;rw[a];exact this
theorem fD.right(h:fD D p q)(a:bB p=true):bB q=true:=by
 have j:=a;unfold bB at a⊢;simp only[qqn,qqw]at a⊢;refine⟨⟨⟨by rw[h.arrays,h.len];exact a.1.1.1,?_⟩,by rw[h.arrays];exact a.1.2⟩,λg n=>?_⟩
 ·have hm:=a.1.1.2;unfold jI at hm⊢;have:∀i:Nat,(q.fns[i]?).map (·.params)=(p.fns[i]?).map (·.params):=λi=>by rw[<-qqp,<-qqp,h.params]
  rw[h.main,h.len,this];exact hm
 ·obtain⟨hc,_,f,hf,k,m,s⟩:=h.codeOk j n;have e:=mI j hf;unfold fnW at e⊢;simp only[qqn,qqu,qqw]at e⊢;refine⟨⟨by rw[k,m];omega,?_⟩,hc.one⟩;obtain⟨x,o,r⟩:=hc.last;unfold ky;rw[o];simpa using r
theorem fD.clean(h:fD D p q)(e:bB p=true){g:FnP}(a:g∈q.fns):lK q.arrays g.code=true:=MQ (D:=D) (h.codeOk e a).1 (h.codeOk e a).2.1
theorem fD.again{r:PrW}(h:fD D p q)(h2:fD D q r)(u:bB p=true):r=q:=by
 obtain⟨v,o,w⟩:=r;have k:=h2.arrays;have m:=h2.main;simp only at k m;have s:o=q.fns:=by apply jqq;intro i;cases e:o[i]? with|none=>rw[List.getElem?_eq_none_iff]at e;rw[qza (by rw[<-h2.len];exact e)]|some g=>obtain⟨f,hf,j,a2,a3,⟨n,a⟩,_⟩:=h2.at (i:=i) e;have t:=(h.codeOk u (qqr hf)).2.1;rw[Dx t]at a;rw[hf];congr 1;obtain⟨g1,g2,g3,g4⟩:=g;obtain⟨f1,f2,f3,f4⟩:=f;simp only at j a2 a3 a;subst j a2 a3 a;rfl
 rw[k,m,s]
end
def gH(l:List In):Prop:=∀x∈l,I64 x.n
structure ae.gJ(b:ae):Prop where num:∀v n,b.num v=some n->I64 n
section
variable {D:Nat->Int->Int->Int}{arr:List Int}{b:ae}
theorem ae.gJ.put(h:b.gJ)(v:Int):(b.put v).gJ:=⟨λx n e=>by
 simp only[ae.put]at e;split at e;·cases e
 ·exact h.num x n e⟩
theorem ae.gJ.jw(h:b.gJ)(v:Int){n:Int}(hn:I64 n):(b.jw v n).gJ:=⟨λx m e=>by
 simp only[ae.jw]at e;split at e;·cases e;exact hn
 ·exact h.num x m e⟩
theorem ae.gJ.does(h:b.gJ){x:In}(hn:I64 x.n):(b.does x).gJ:=by
 unfold ae.does bG;split;·exact h
 ·have a:=λv=>h.put v;split;·exact(a _).jw _ hn
  ·split
   ·split;·rename_i m hm;exact ae.gJ.jw (b:=(b.put _).aZ _ x.a) ⟨(a _).num⟩ _ (h.num _ _ hm)
    ·exact⟨(a _).num⟩
   ·split
    ·split;·exact⟨(a _).num⟩
     ·exact a _
    ·exact a _
theorem BF(h:b.gJ){x:In}(hn:I64 x.n):I64 (b.dQ x).n:=by
 unfold ae.dQ;split;·exact eG
 ·split;·rename_i n e;exact h.num _ _ e
  ·exact hn
theorem qR(e:∀o a b,I64 (D o a b))(h:b.gJ){x:In}(hn:I64 x.n):I64 (b.shorter D arr x).n:=by
 have hr:I64 (b.rooted x).n:=by
  unfold ae.rooted;split;·exact hn
  ·split;·exact hn
   ·split<;>exact hn
 unfold ae.shorter;generalize b.rooted x=y at hr;have hm:∀v a,I64 (aJ (aQ v a)).n:=λv a=>by unfold aJ;split<;>exact eG
 unfold ae.bE;split;·exact BF h hr
 ·split
  ·unfold ae.gU;split;·exact e _ _ _
   ·split
    ·split;·exact eG
     ·exact BF h eG
    ·unfold au;split;·exact hm _ _
     ·split;·exact hm _ _
      ·split;·exact hm _ _
       ·split;·exact hm _ _
        ·split;·exact eG
         ·exact hr
  ·split
   ·split
    ·split;·exact eG
     ·exact hr
    ·exact hr
   ·split
    ·split
     ·split;·exact eG
      ·exact hr
     ·exact hr
    ·split
     ·split
      ·split;·exact eG
       ·exact eG
      ·exact hr
     ·exact hr
theorem tX(f:∀o a b,I64 (D o a b)){lead:Nat->Bool}:∀(l:List In)(i:Nat)(b:ae),b.gJ->gH l->gH (bD D arr lead i b l)
 |[],_,_,_,_=>λ_ h=>by cases h|x::l,i,b,j,hl=>λy h=>by
  simp only[bD,qzh]at h;have g:(if lead i then ae.new else b).gJ:=by
   split;·exact⟨λ_ _ e=>by cases e⟩
   ·exact j
  have hs:=qR (arr:=arr) f g (hl x (by simp));rcases h with rfl|h;·exact hs
  ·exact tX f l (i+1) _ (g.does hs) (λz hz=>hl z (by simp[hz])) y h
theorem Lg(g:∀o a b,I64 (D o a b)){l:List In}(h:gH l):gH (bz D arr l):=λy f=>by
 unfold bz bT at f;obtain⟨x,i,rfl⟩:=qjb.1 f;have j:=(jzt.1 i).1;have hk:I64 x.n:=by
  rcases ve x j with e|e;·rw[e];exact eG
  ·exact tX g l 0 _ ⟨λ_ _ e=>by cases e⟩ h x e
 split<;>exact hk
theorem mH(e:∀o a b,I64 (D o a b)){l:List In}(h:gH l):∀n,gH (dX D arr n l)|0=>h|n+1=>Lg e (mH e h n)
end
def iC(p:PrW):Prop:=∀f∈p.fns,gH f.code
section
variable {l:List In}
def vH(l:List In):List Nat->Bool|[]=>true|k::R=>(k==0||R.any λi=>match l[i]? with|some x=>(bN x i).contains k|none=>false)&&vH l R
theorem BA:∀{R:List Nat},vH l R=true->∀k∈R,Reach l k
 |[],_,k,h=>by cases h|k::R,h,j,hj=>by
  unfold vH at h;simp only[qqn,qji,jqz,jqv]at h;obtain⟨h1,h2⟩:=h;have ih:=BA h2;rcases qzh.1 hj with rfl|hj
  ·rcases h1 with rfl|⟨i,hi,hk⟩;·exact .first
   ·cases a:l[i]? with|none=>rw[a]at hk;cases hk|some x=>rw[a]at hk;exact .next (ih i hi) a (by simpa using hk)
  ·exact ih j hj
def yX(l:List In)(R:List Nat):Bool:=R.contains 0&&R.all λi=>match l[i]? with|some x=>(bN x i).all λk=>R.contains k|none=>true
theorem M8{R:List Nat}(h:yX l R=true):∀k,Reach l k->k∈R:=λk hk=>by unfold yX at h;simp only[qqn,qqw]at h;induction hk with|first=>simpa using h.1|next hr a hk ih=>have:=h.2 _ ih;rw[a]at this;simp only[qqw]at this;simpa using this _ hk
theorem GI{R:List Nat}(h1:vH l R=true)(h2:yX l R=true):bn l=(List.range l.length).map λi=>if !R.contains i&&decide (i+1<l.length)then{}else l.getD i {}:=by
 unfold bn;refine jqg λi _=>?_;have:Reach l i↔i∈R:=⟨M8 h2 i,BA h1 i⟩;by_cases hc:¬Reach l i/\i+1<l.length;·rw[qzb hc,qzb (by rw[qqx hc.2,Bool.and_true,qjj,List.contains_eq_mem,jzl];exact λc=>hc.1 (this.2 c))]
 ·rw[qzc hc,qzc (by simp only[qqn,qjj,List.contains_eq_mem,jzl,qqu,not_and];intro c d;exact hc ⟨λr=>c (this.1 r),d⟩)]
def Al(l:List In):List (Nat×Int)->Bool|[]=>true|(i,v)::L=>(match l[i]? with|some x=>(di x).contains v||(bG x !=some v&&(bN x i).any λk=>L.contains (k,v))|none=>false)&&Al l L
theorem FL:∀{L:List (Nat×Int)},Al l L=true->∀q∈L,Live l q.1 q.2
 |[],_,k,h=>by cases h|(i,v)::L,h,q,e=>by
  unfold Al at h;simp only[qqn]at h;obtain⟨h1,h2⟩:=h;have ih:=FL h2;rcases qzh.1 e with rfl|e;·cases a:l[i]? with|none=>rw[a]at h1;cases h1|some x=>
    rw[a]at h1;simp only[qji,qqn,jxl,jqv]at h1;rcases h1 with h1|⟨h1,k,hk,hm⟩;·exact .use a (by simpa using h1)
    ·exact .pass a h1 hk (ih (k,v) (by simpa using hm))
  ·exact ih q e
def C9(l:List In)(L:List (Nat×Int)):Bool:=(List.range l.length).all λi=>match l[i]? with|some x=>((di x).all λv=>L.contains (i,v))&&L.all λq=>!((bN x i).contains q.1&&(bG x !=some q.2))||L.contains (i,q.2)|none=>true
theorem Pv{L:List (Nat×Int)}(h:C9 l L=true):∀i v,Live l i v->(i,v)∈L:=λi v hk=>by unfold C9 at h;simp only[qqw,qzg]at h;induction hk with| @use i x v a hv=>have:=h i (qqi.1 a).1;rw[a]at this;simp only[qqn,qqw]at this;simpa using this.1 v hv| @pass i k x v a e hk _ ih=>
  have:=h i (qqi.1 a).1;rw[a]at this;simp only[qqn,qqw]at this;have:=this.2 (k,v) ih;simp only[qji,qjj,Bool.and_eq_false_iff]at this;rcases this with(c|c)|c;·simp at c;exact absurd hk c
  ·simp at c;exact absurd c e
  ·simpa using c
theorem Pb{L:List (Nat×Int)}(h1:Al l L=true)(h2:C9 l L=true):bL l=(List.range l.length).map λi=>if eO (l.getD i {})&&!L.contains (i+1,(l.getD i {}).v)then{}else l.getD i {}:=by
 unfold bL;refine jqg λi _=>?_;have:Live l (i+1) (l.getD i {}).v↔(i+1,(l.getD i {}).v)∈L:=⟨Pv h2 _ _,FL h1 (i+1,(l.getD i {}).v)⟩;by_cases hc:eO (l.getD i {})=true/\¬Live l (i+1) (l.getD i {}).v;·rw[qzb hc,qzb (by rw[hc.1,jzs,qjj,List.contains_eq_mem,jzl];exact λc=>hc.2 (this.2 c))]
 ·rw[qzc hc,qzc (by simp only[qqn,qjj,List.contains_eq_mem,jzl,not_and];intro c d;exact hc ⟨c,λr=>d (this.1 r)⟩)]
end
section
variable {D:Nat->Int->Int->Int}{arr:List Int}{c d:List In}
theorem ql{e a f g:List In}{R:List Nat}{L:List (Nat×Int)}(h1:aG D arr c=e)(j:vH e R=true)(k:yX e R=true)(h2:((List.range e.length).map λi=>if !R.contains i&&decide (i+1<e.length)then{}else e.getD i {})=a)(m:Al a L=true)(n:C9 a L=true)(h3:((List.range a.length).map λi=>if eO (a.getD i {})&&!L.contains (i+1,(a.getD i {}).v)then{}else a.getD i {})=f)(h:bT (mg f)=g):bz D arr c=g:=by unfold bz dH;rw[h1,GI j k,h2,Pb m n,h3,h]
theorem O3{m:Nat}(h:dX D arr m c=d)(hd:bz D arr d=d){n:Nat}{e:List In}(he:e=dX D arr n c)(hf:bz D arr e=e):e=d:=by
 rcases Nat.le_total m n with k|k
 ·obtain⟨q,rfl⟩:∃q,n=m+q:=⟨n-m,by omega⟩;have:∀q,dX D arr (m+q) c=d:=λq=>by induction q with|zero=>exact h|succ q ih=>show bz D arr (dX D arr (m+q) c)=d;rw[ih,hd]
  rw[he,this q]
 ·obtain⟨q,rfl⟩:∃q,m=n+q:=⟨m-n,by omega⟩;have:∀q,dX D arr (n+q) c=e:=λq=>by induction q with|zero=>exact he.symm|succ q ih=>show bz D arr (dX D arr (n+q) c)=e;rw[ih,hf]
  rw[<-h,this q]
end
