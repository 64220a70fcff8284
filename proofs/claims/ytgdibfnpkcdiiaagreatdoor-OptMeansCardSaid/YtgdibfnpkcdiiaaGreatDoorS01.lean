/- Joint text: OFix, OIter, OSimA, OSimB, OSimC. By an AI agent. -/
import Derived.Test.YtgdibfnpkcdiiaaGreatDoorS00
set_option linter.all false
set_option maxRecDepth 100000
set_option maxHeartbeats 64000000
noncomputable section
namespace Go.Proofs.YtgdibfnpkcdiiaaGreatDoor
def af.lV(arr:List Int)(b:af)(x:In):Bool:=if x.op=2 then decide (b.num x.a=none/\x.v≠x.a)else if x.op=3 then decide (b.dD x.bin x.a x.b=none)&&decide (b.num x.a=none\/b.num x.b=none\/(b.num x.b=some 0/\(x.bin=4\/x.bin=5)))else if x.op=6 then(match b.num x.a with|some n=>decide (n<0\/vH arr x<=n)|none=>true)else if x.op=7 then decide (b.num x.a=none\/b.num x.a=some 0)else if x.op=14 then decide (b.num x.a=none)else true
def dV(b:af)(x:In):(b.rooted x).op=x.op:=by
 unfold af.rooted;split;·rfl
 ·split;·rfl
  ·split<;>rfl
def Pp(b:af)(x:In):(b.rooted x).to=x.to:=by
 unfold af.rooted;split;·rfl
 ·split;·rfl
  ·split<;>rfl
def GL(b:af)(x:In):(b.rooted x).v=x.v:=by
 unfold af.rooted;split;·rfl
 ·split;·rfl
  ·split<;>rfl
def gY(o:Nat):Nat:=if o=0 then 0 else if o=3 then 3 else if o=2\/o=14 then 2 else 1
def E9(x:In):(aS x).op=0\/(aS x=x/\x.v≠x.a):=by
 unfold aS;split;·exact Or.inl rfl
 ·rename_i h;exact Or.inr ⟨rfl,h⟩
def zP(b:af)(x:In):(b.dR x).op=0\/(b.dR x).op=1\/(b.dR x=x/\x.v≠x.a/\b.num x.a=none):=by
 unfold af.dR;split;·exact Or.inl rfl
 ·rename_i h;cases hn:b.num x.a with|some n=>exact Or.inr (Or.inl rfl)|none=>exact Or.inr (Or.inr ⟨rfl,h,rfl⟩)
def QY(x:In)(n m:Option Int):ak x n m=x\/(ak x n m).op=1\/ak x n m=aS (bn x.v x.a)\/ak x n m=aS (bn x.v x.b):=by
 have key:∀(c:Prop) [Decidable c](K:In->Prop)(y z:In),K y->K z->K (if c then y else z):=λc _ K y z h1 h2=>by
  by_cases hc:c;·rw[qzb hc];exact h1
  ·rw[qzc hc];exact h2
 unfold ak;have k1:∀{y:In},y=aS (bn x.v x.a)->(y=x\/y.op=1\/y=aS (bn x.v x.a)\/y=aS (bn x.v x.b)):=λh=>Or.inr (Or.inr (Or.inl h));have k2:∀{y:In},y=aS (bn x.v x.b)->(y=x\/y.op=1\/y=aS (bn x.v x.a)\/y=aS (bn x.v x.b)):=λh=>Or.inr (Or.inr (Or.inr h));let K:=λy:In=>y=x\/y.op=1\/y=aS (bn x.v x.a)\/y=aS (bn x.v x.b);exact key _ K _ _ (k2 rfl) (key _ K _ _ (k1 rfl) (key _ K _ _ (k2 rfl) (key _ K _ _ (k1 rfl) (key _ K _ _ (Or.inr (Or.inl rfl)) (Or.inl rfl)))))
section
variable {D:Nat->Int->Int->Int}{arr:List Int}{b:af}
def Jm{x:In}(d:x.op=3):(b.iK D x).op=0\/(b.iK D x).op=1\/(∃a,b.iK D x=bn x.v a/\x.v≠a/\(a=x.a\/a=x.b\/∃v,a=b.root v))\/(b.iK D x=x/\b.lV arr x=true):=by
 unfold af.iK;split;·exact Or.inr (Or.inl rfl)
 ·rename_i hk;cases c:b.dD x.bin x.a x.b with|some v=>
   simp only[];split;·exact Or.inl rfl
   ·rcases zP b (bn x.v (b.root v))with h|h|⟨h,h2,_⟩;·exact Or.inl h
    ·exact Or.inr (Or.inl h)
    ·exact Or.inr (Or.inr (Or.inl ⟨_,h,h2,Or.inr (Or.inr ⟨v,rfl⟩)⟩))|none=>
   simp only[];rcases QY x (b.num x.a) (b.num x.b)with h|h|h|h;·refine Or.inr (Or.inr (Or.inr ⟨h,?_⟩));unfold af.lV;rw[qzc oqo,qzb d,c];simp only[decide_true,jxj,qqu];cases h1:b.num x.a with|none=>exact Or.inl rfl|some n=>cases h2:b.num x.b with|none=>exact Or.inr (Or.inl rfl)|some m=>refine Or.inr (Or.inr ?_);rw[h1,h2]at hk;simp only[qzn,true_and]at hk;refine⟨jzh λhc=>hk (Or.inl hc),jzh λhc=>hk (Or.inr ⟨λe=>hc (Or.inl e),λe=>hc (Or.inr e)⟩)⟩
   ·exact Or.inr (Or.inl h)
   ·rw[h];rcases E9 (bn x.v x.a)with h|⟨h,h2⟩;·exact Or.inl h
    ·exact Or.inr (Or.inr (Or.inl ⟨_,h,h2,Or.inl rfl⟩))
   ·rw[h];rcases E9 (bn x.v x.b)with h|⟨h,h2⟩;·exact Or.inl h
    ·exact Or.inr (Or.inr (Or.inl ⟨_,h,h2,Or.inr (Or.inl rfl)⟩))
def VE{x:In}(j:x.op≠0):gY (b.bB D arr x).op<gY x.op\/(b.bB D arr x=x/\b.lV arr x=true):=by
 by_cases h2:x.op=2
 ·have e:b.bB D arr x=b.dR x:=by unfold af.bB;rw[qzb h2]
  rw[e];rcases zP b x with h|h|⟨h,h3,i⟩;·left;rw[h,h2];decide
  ·left;rw[h,h2];decide
  ·right;refine⟨h,?_⟩;unfold af.lV;rw[qzb h2];simp[h3,i]
 by_cases h3:x.op=3
 ·have e:b.bB D arr x=b.iK D x:=by unfold af.bB;rw[qzc h2,qzb h3]
  rw[e];rcases Jm (D:=D) (arr:=arr) (b:=b) h3 with h|h|⟨a,h,_⟩|h;·left;rw[h,h3];decide
  ·left;rw[h,h3];decide
  ·left;rw[h,h3];show gY 2<gY 3;decide
  ·exact Or.inr h
 by_cases c:x.op=6
 ·have e:b.bB D arr x=(match b.num x.a with|some n=>if 0<=n/\n<vH arr x then{}else x|none=>x):=by unfold af.bB;rw[qzc h2,qzc h3,qzb c];rfl
  have g:b.lV arr x=(match b.num x.a with|some n=>decide (n<0\/vH arr x<=n)|none=>true):=by unfold af.lV;rw[qzc h2,qzc h3,qzb c]
  rw[e,g];cases hn:b.num x.a with|none=>exact Or.inr ⟨rfl,rfl⟩|some n=>
   simp only[];split;·left;rw[c];decide
   ·right;exact⟨rfl,by simp only[qqu];omega⟩
 by_cases d:x.op=7
 ·have e:b.bB D arr x=(match b.num x.a with|some n=>if n≠0 then{}else x|none=>x):=by unfold af.bB;rw[qzc h2,qzc h3,qzc c,qzb d];rfl
  have g:b.lV arr x=decide (b.num x.a=none\/b.num x.a=some 0):=by unfold af.lV;rw[qzc h2,qzc h3,qzc c,qzb d]
  rw[e,g];cases hn:b.num x.a with|none=>exact Or.inr ⟨rfl,by simp⟩|some n=>
   simp only[];split;·left;rw[d];decide
   ·rename_i h0;right;exact⟨rfl,by simp at h0;simp[h0]⟩
 by_cases f:x.op=14
 ·have e:b.bB D arr x=(match b.num x.a with|some n=>if n=0 then{op:=13,to:=x.to}else{}|none=>x):=by unfold af.bB;rw[qzc h2,qzc h3,qzc c,qzc d,qzb f];rfl
  have g:b.lV arr x=decide (b.num x.a=none):=by unfold af.lV;rw[qzc h2,qzc h3,qzc c,qzc d,qzb f]
  rw[e,g];cases hn:b.num x.a with|none=>exact Or.inr ⟨rfl,by simp⟩|some n=>
   simp only[];split;·left;rw[f];show gY 13<gY 14;decide
   ·left;rw[f];show gY 0<gY 14;decide
 ·right;refine⟨by unfold af.bB;rw[qzc h2,qzc h3,qzc c,qzc d,qzc f],by unfold af.lV;rw[qzc h2,qzc h3,qzc c,qzc d,qzc f]⟩
def uL{x:In}(a:x.op≠0):gY (b.shorter D arr x).op<gY x.op\/(b.shorter D arr x=b.rooted x/\b.lV arr (b.rooted x)=true):=by have:=VE (D:=D) (arr:=arr) (b:=b) (x:=b.rooted x) (by rw[dV];exact a);rw[dV]at this;exact this
def af.Rt(b:af):Prop:=∀v o,b.cp v=some o->b.cp o=none
def af.Rt.root(h:b.Rt)(v:Int):b.cp (b.root v)=none:=by unfold af.root;cases e:b.cp v with|none=>exact e|some o=>exact h v o e
def af.Rt.idem(h:b.Rt)(v:Int):b.root (b.root v)=b.root v:=by have:=h.root v;show(b.cp (b.root v)).getD (b.root v)=b.root v;rw[this];rfl
def af.M8:af.new.Rt:=λ_ _ h=>by cases h
def lY{x:In}(b:af)(h:hasB x.op=true):b.rooted x={x with a:=b.root x.a,b:=b.root x.b}:=by unfold af.rooted;rw[qzb h]
def nZ{x:In}(b:af)(h:¬hasB x.op=true)(h2:fH x.op=true):b.rooted x={x with a:=b.root x.a}:=by unfold af.rooted;rw[qzc h,qzb h2]
def zH{x:In}(b:af)(h:¬hasB x.op=true)(h2:¬fH x.op=true)(h3:x.op=11):b.rooted x={x with args:=x.args.map b.root}:=by unfold af.rooted;rw[qzc h,qzc h2,qzb h3]
def yL{x:In}(b:af)(h:¬hasB x.op=true)(h2:¬fH x.op=true)(h3:¬x.op=11):b.rooted x=x:=by unfold af.rooted;rw[qzc h,qzc h2,qzc h3]
def af.Rt.rooted(h:b.Rt)(x:In):b.rooted (b.rooted x)=b.rooted x:=by
 by_cases c:hasB x.op=true;·rw[lY b c,lY b (x:={x with a:=b.root x.a,b:=b.root x.b}) c];show({x with a:=b.root (b.root x.a),b:=b.root (b.root x.b)}:In)=_;rw[h.idem,h.idem]
 ·by_cases d:fH x.op=true;·rw[nZ b c d,nZ b (x:={x with a:=b.root x.a}) c d];show({x with a:=b.root (b.root x.a)}:In)=_;rw[h.idem]
  ·by_cases e:x.op=11;·rw[zH b c d e,zH b (x:={x with args:=x.args.map b.root}) c d e];show({x with args:=(x.args.map b.root).map b.root}:In)=_;rw[qzx,show b.root∘b.root=b.root from funext h.idem]
   ·rw[yL b c d e,yL b c d e]
def af.Rt.put(h:b.Rt)(v:Int):(b.put v).Rt:=λx o e=>by
 simp only[af.put]at e⊢;split at e;·cases e
 ·split at e;·cases e
  ·rw[h x o e];simp
def af.YO(b:af)(y:In):Prop:=y.op=2->b.cp y.a=none/\y.v≠y.a
def af.Rt.does(h:b.Rt){y:In}(k:b.YO y):(b.does y).Rt:=by
 unfold af.does bD;by_cases g:fq y.op=true
 ·rw[qzb g];have a:=h.put y.v;have f:∀c:af,c.Rt->∀v n,(c.jP v n).Rt:=λc hc v n=>hc;simp only[];split;·exact f _ a _ _
  ·split
   ·rename_i h2;obtain⟨l,m⟩:=k h2;have d:((b.put y.v).aV y.v y.a).Rt:=λu o e=>by
     have j:∀z,b.cp z=none->(b.put y.v).cp z=none:=λz hz=>by simp[af.put,hz]
     simp only[af.aV]at e⊢;split at e;·cases e;rw[qzc (λe=>m e.symm)];exact j _ l
     ·have ho:o≠y.v:=λho=>by
       subst ho;simp only[af.put]at e;split at e;·cases e
       ·split at e;·cases e
        ·rename_i i;exact i e
      rw[qzc ho];exact a u o e
    split;·exact f _ d _ _
    ·exact d
   ·split
    ·split;·exact a
     ·exact a
    ·exact a
 ·rw[qzc g];exact h
def Mk(h:b.Rt)(x:In)(g:x.op≠0):b.YO (b.shorter D arr x):=λh2=>by
 have hr:=dV b x;by_cases d:x.op=2
 ·have e:b.shorter D arr x=b.dR (b.rooted x):=by unfold af.shorter af.bB;rw[qzb (by rw[hr];exact d)]
  rw[e]at h2⊢;rcases zP b (b.rooted x)with q|q|⟨q,f,_⟩;·rw[q]at h2;cases h2
  ·rw[q]at h2;cases h2
  ·rw[q];refine⟨?_,f⟩;have:(b.rooted x).a=b.root x.a:=by unfold af.rooted;rw[d];rfl
   rw[this];exact h.root _
 by_cases c:x.op=3
 ·have e:b.shorter D arr x=b.iK D (b.rooted x):=by unfold af.shorter af.bB;rw[qzc (by rw[hr];exact d),qzb (by rw[hr];exact c)]
  have j:(b.rooted x).a=b.root x.a:=by unfold af.rooted;rw[c];rfl
  have k:(b.rooted x).b=b.root x.b:=by unfold af.rooted;rw[c];rfl
  rw[e]at h2⊢;rcases Jm (D:=D) (arr:=arr) (b:=b) (x:=b.rooted x) (by rw[hr];exact c)with q|q|⟨a,q,f,i⟩|⟨q,_⟩;·rw[q]at h2;cases h2
  ·rw[q]at h2;cases h2
  ·rw[q];refine⟨?_,f⟩;show b.cp a=none;rcases i with rfl|rfl|⟨v,rfl⟩;·rw[j];exact h.root _
   ·rw[k];exact h.root _
   ·exact h.root _
  ·rw[q,hr,c]at h2;cases h2
 ·exfalso;rcases uL (D:=D) (arr:=arr) (b:=b) g with q|⟨q,_⟩
  ·rw[h2]at q;have:gY 2=2:=rfl;rw[this]at q;have:x.op=3:=jzh λhc=>by
    unfold gY at q;rw[qzc g,qzc hc]at q;by_cases hd:x.op=2\/x.op=14;·rw[qzb hd]at q;exact absurd q (by decide)
    ·rw[qzc hd]at q;exact absurd q (by decide)
   exact c this
  ·rw[q,hr]at h2;exact d h2
def dF(l:List In):Nat:=(l.map λx=>gY x.op).sum
def rP{o:Nat}:gY o=0↔o=0:=by
 unfold gY;constructor
 ·intro h;split at h;·assumption
  ·split at h;·omega
   ·split at h<;>omega
 ·intro h;rw[qzb h]
def qK(l a:List In):Prop:=l.map (λx=>(x.op,x.to))=a.map (λx=>(x.op,x.to))
def J8{l a:List In}(h:qK l a):eu l=eu a:=by
 funext i;have c:∀j:Nat,(l[j]?).map (λx=>(x.op,x.to))=(a[j]?).map (λx=>(x.op,x.to)):=λj=>by rw[<-qqp,<-qqp];unfold qK at h;rw[h]
 have ha:∀t:List In,t.any (λx=>(x.op==13||x.op==14)&&x.to.toNat==i)=(t.map λx=>(x.op,x.to)).any (λy=>(y.1==13||y.1==14)&&y.2.toNat==i):=λt=>by rw[List.any_map];rfl
 unfold eu;rw[ha l,ha a,h];congr 1;cases i with|zero=>rfl|succ j=>have:=c j;simp only[];cases h1:l[j]? with
  |none=>cases h2:a[j]? with|none=>rfl|some y=>rw[h1,h2]at this;cases this
  |some x=>cases h2:a[j]? with|none=>rw[h1,h2]at this;cases this|some y=>rw[h1,h2]at this;simp only[jqf,qzk,Prod.mk.injEq]at this;simp only[this.1]
variable {lead:Nat->Bool}
def vE:∀(l:List In)(i:Nat)(b:af),(∀x∈l,x.op≠0)->dF (bG D arr lead i b l)<=dF l/\(dF (bG D arr lead i b l)=dF l->qK (bG D arr lead i b l) l)
 |[],_,_,_=>⟨qqf _,λ_=>rfl⟩|x::l,i,b,hl=>by
  have ih:=vE l (i+1) ((if lead i then af.new else b).does ((if lead i then af.new else b).shorter D arr x)) λy c=>hl y (by simp[c]);have hs:=uL (D:=D) (arr:=arr) (b:=if lead i then af.new else b) (hl x (by simp));unfold dF at ih⊢;simp only[bG,jqx,List.sum_cons];have hr:gY ((if lead i then af.new else b).shorter D arr x).op<=gY x.op:=by
   rcases hs with h|⟨h,_⟩;·omega
   ·rw[h,dV];exact qqf _
  refine⟨by omega,λe=>?_⟩;have a:=ih.2 oqo;rcases hs with h|⟨h,_⟩;·omega
  ·unfold qK at a⊢;simp only[jqx];rw[a,h,dV,Pp]
def vX:∀(l:List In)(i:Nat)(b:af),b.Rt->(∀x∈l,x.op≠0)->qK (bG D arr lead i b l) l->bG D arr lead i b (bG D arr lead i b l)=bG D arr lead i b l
 |[],_,_,_,_,_=>rfl|x::l,i,b,e,hl,ha=>by
  have a:(if lead i then af.new else b).Rt:=by
   split;·exact af.M8
   ·exact e
  have c:=hl x (by simp);have hs:=uL (D:=D) (arr:=arr) (b:=if lead i then af.new else b) c;have hc:=Mk (D:=D) (arr:=arr) a x c;unfold qK at ha;simp only[bG,jqx,jjb,Prod.mk.injEq]at ha;rcases hs with h|⟨h,_⟩;·rw[ha.1.1]at h;omega
  have ih:=vX l (i+1) _ (a.does hc) (λy f=>hl y (by simp[f])) ha.2;have h2:(if lead i then af.new else b).shorter D arr ((if lead i then af.new else b).shorter D arr x)=(if lead i then af.new else b).shorter D arr x:=by
   have d:(if lead i then af.new else b).rooted ((if lead i then af.new else b).shorter D arr x)=(if lead i then af.new else b).rooted x:=by rw[h];exact a.rooted x
   show af.bB D arr (if lead i then af.new else b) ((if lead i then af.new else b).rooted ((if lead i then af.new else b).shorter D arr x))=_;rw[d];rfl
  simp only[bG];rw[h2,ih]
def Pj:∀(i:Nat)(l r:List In),(∀x∈eB i l r,x.op≠0)->eB i l r=r
 |_,_,[],_=>rfl|_,_,[x],_=>rfl|i,l,x::y::r,h=>by
  simp only[eB]at h⊢;rw[Pj (i+1) l (y::r) λz hz=>h z (by simp[hz])];split;·rename_i hc;exact absurd rfl (h _ (by rw[qzb hc];exact List.mem_cons_self ..))
  ·rfl
def PW{l:List In}{F:Nat->In}(hF:∀i,i<l.length->F i={}\/F i=l.getD i {})(h:∀x∈(List.range l.length).map F,x.op≠0):(List.range l.length).map F=l:=by
 apply jqk;intro i;rw[qqp];by_cases hi:i<l.length
 ·rw[qqz hi,jqf];rcases hF i hi with e|e;·exact absurd (by rw[e]) (h (F i) (qjb.2 ⟨i,qzg.2 hi,rfl⟩))
  ·rw[e,qqm,qqh hi];rfl
 ·rw[qza (by simp;omega),qza oqo];rfl
def UX{l:List In}(h:∀x∈bO l,x.op≠0):bO l=l:=PW (λi _=>by
 by_cases h:gJ (l.getD i {})=true/\¬Live l (i+1) (l.getD i {}).v;·rw[qzb h];exact Or.inl rfl
 ·rw[qzc h];exact Or.inr rfl) h
def Mr{l:List In}(h:∀x∈aZ l,x.op≠0):aZ l=l:=PW (λi _=>by
 by_cases h:¬Reach l i/\i+1<l.length;·rw[qzb h];exact Or.inl rfl
 ·rw[qzc h];exact Or.inr rfl) h
def R7{l:List In}(h:∀x∈eT l,x.op≠0):aZ l=l/\bO l=l/\mR l=l/\eT l=l:=by have h1:mR (bO (aZ l))=bO (aZ l):=Pj _ _ _ h;have a:eT l=bO (aZ l):=h1;have h2:bO (aZ l)=aZ l:=UX (by rw[<-a];exact h);have h3:aZ l=l:=Mr (by rw[<-h2,<-a];exact h);rw[h3]at h1 h2 a;rw[h2]at h1 a;exact⟨h3,h2,h1,a⟩
def Oh{l:List In}(h:∀x∈l,x.op≠0)(ht:∀x∈l,x.op=13\/x.op=14->0<=x.to/\x.to<l.length):bZ l=l:=by
 have hf:∀t:List In,(∀x∈t,x.op≠0)->t.filter (λx=>x.op !=0)=t:=λt ht=>List.filter_eq_self.2 λx c=>by simpa using ht x c
 unfold bZ;rw[hf l h];conv=>rhs;rw[<-List.map_id l]
 apply jqj;intro x c;by_cases a:x.op=13\/x.op=14
 ·rw[qzb a];have:=ht x c a;have e:atW l x.to.toNat=x.to.toNat:=by unfold atW;rw[hf _ λy d=>h y (List.mem_of_mem_take d),jqg];omega
  rw[e];show({x with to:=((x.to.toNat:Nat):Int)}:In)=x;rw[show((x.to.toNat:Nat):Int)=x.to by omega]
 ·rw[qzc a];rfl
def Ee(l:List In):dF (bZ l)=dF l:=by
 unfold bZ dF;rw[qzx];have:∀t:List In,(((t.filter λx=>x.op !=0)).map ((λx:In=>gY x.op)∘λx=>if x.op=13\/x.op=14 then{x with to:=((atW l x.to.toNat:Nat):Int)}else x)).sum=(t.map λx=>gY x.op).sum:=λt=>by induction t with|nil=>rfl|cons x t ih=>
   rw[jzz,jqx,List.sum_cons];by_cases a:x.op=0;·rw[qzc (by simp[a]),ih,rP.2 a];omega
   ·rw[qzb (by simpa using a),jqx,List.sum_cons,ih];congr 1;show gY (if x.op=13\/x.op=14 then{x with to:=((atW l x.to.toNat:Nat):Int)}else x:In).op=_;split<;>rfl
 exact this l
def lX:∀(l a:List In),l.length=a.length->(∀i,i<l.length->a.getD i {}={}\/a.getD i {}=l.getD i {})->dF a<=dF l/\(dF a=dF l->(∀x∈l,x.op≠0)->∀x∈a,x.op≠0)
 |[],[],_,_=>⟨qqf _,λ_ _ x c=>by cases c⟩|[],_::_,h,_=>by simp at h|_::_,[],h,_=>by simp at h|x::l,y::a,h,hs=>by
  have ih:=lX l a (by simpa using h) λi hi=>by simpa using hs (i+1) (by simp;omega)
  have h0:=hs 0 (by simp);simp only[List.getD_cons_zero]at h0;unfold dF at ih⊢;simp only[jqx,List.sum_cons];rcases h0 with rfl|rfl;·refine⟨by rw[rP.2 rfl];omega,λe hn z hz=>?_⟩;have c:=hn x (by simp);have:gY x.op≠0:=λe=>c (rP.1 e);rw[rP.2 rfl]at e;omega
  ·refine⟨by omega,λe hn z hz=>?_⟩;rcases qzh.1 hz with rfl|hz;·exact hn z (by simp)
   ·exact ih.2 oqo (λu hu=>hn u (by simp[hu])) z hz
def uU:∀(i:Nat)(l r:List In)(j:Nat),(eB i l r).getD j {}={}\/(eB i l r).getD j {}=r.getD j {}
 |_,_,[],j=>Or.inr rfl|_,_,[x],j=>Or.inr rfl|i,l,x::y::r,0=>by
  simp only[eB,List.getD_cons_zero];by_cases hc:x.op=13/\(i:Int)<x.to/\lW l (i+1) x.to.toNat=true;·rw[qzb hc];exact Or.inl rfl
  ·rw[qzc hc];exact Or.inr rfl|i,l,x::y::r,j+1=>by simp only[eB,List.getD_cons_succ];exact uU (i+1) l (y::r) j
def AR{l:List In}{F:Nat->In}(hF:∀i,i<l.length->F i={}\/F i=l.getD i {})(i:Nat)(hi:i<l.length):((List.range l.length).map F).getD i {}={}\/((List.range l.length).map F).getD i {}=l.getD i {}:=by rw[qqm,qqp,qqz hi];exact hF i hi
def GY(l:List In):dF (eT l)<=dF l/\(dF (eT l)=dF l->(∀x∈l,x.op≠0)->∀x∈eT l,x.op≠0):=by
 have h1:=lX l (aZ l) (by rw[lS]) (AR λi _=>by
  by_cases h:¬Reach l i/\i+1<l.length;·rw[qzb h];exact Or.inl rfl
  ·rw[qzc h];exact Or.inr rfl);have h2:=lX (aZ l) (bO (aZ l)) (by rw[uw]) (AR λi _=>by
  by_cases h:gJ ((aZ l).getD i {})=true/\¬Live (aZ l) (i+1) ((aZ l).getD i {}).v;·rw[qzb h];exact Or.inl rfl
  ·rw[qzc h];exact Or.inr rfl);have h3:=lX (bO (aZ l)) (eT l) (by rw[su,uw,lS]) (λi _=>uU _ _ _ i);exact⟨by omega,λe hn=>h3.2 oqo (h2.2 oqo (h1.2 oqo hn))⟩
structure eG(p:PrW)(f:FnP)(l:List In):Prop where
 one:∀x∈l,dw p f x=true
 len:f.code.length=l.length
 last:∃x,l.getLast? =some x/\x.op=12
def eG.nz{p:PrW}{f:FnP}{l:List In}(h:eG p f l):∀x∈l,x.op≠0:=λx a=>by have:=(dB.1 (h.one x a)).1;omega
def eG.within{p:PrW}{f:FnP}{l:List In}(h:eG p f l):∀y∈aK D arr l,okI p f y:=DT l 0 _ (af.qW _) h.one
def eG.back{p:PrW}{f:FnP}{l a:List In}(h:eG p f l)(hl:a.length=l.length)(ho:∀y∈a,okI p f y)(hn:∀y∈a,y.op≠0):bZ a=a:=Oh hn λx c d=>by
  rcases ho x c with rfl|h1;·exact absurd rfl (hn _ c)
  ·have:=vM h1 (by unfold jq;simpa using d);rw[h.len,<-hl]at this;exact this
def H8{p:PrW}{f:FnP}{l:List In}(h:eG p f l):dF (bC D arr l)<=dF l/\(dF (bC D arr l)=dF l->bC D arr (bC D arr l)=bC D arr l):=by
 have hw:=vE (D:=D) (arr:=arr) (lead:=eu l) l 0 .new h.nz;have hs:=GY (aK D arr l);have n:=Ee (eT (aK D arr l));have j:aK D arr l=bG D arr (eu l) 0 .new l:=rfl;have c:bC D arr l=bZ (eT (aK D arr l)):=rfl;rw[<-j]at hw;rw[<-c]at n;refine⟨by omega,λe=>?_⟩;have ha:=hw.2 oqo;have g:∀x∈aK D arr l,x.op≠0:=λx o t=>by
  have:(x.op,x.to)∈l.map (λx=>(x.op,x.to)):=by unfold qK at ha;rw[<-ha];exact qjb.2 ⟨x,o,rfl⟩
  obtain⟨y,r,a⟩:=qjb.1 this;have:y.op=x.op:=jqp Prod.fst a;exact h.nz y r oqo
 have m:=hs.2 oqo g;have hS:=(R7 m).2.2.2;have k:(aK D arr l).length=l.length:=jZ _ _ _ _ _ _;have d:bZ (aK D arr l)=aK D arr l:=h.back k h.within g;have a:bC D arr l=aK D arr l:=by rw[c,hS,d]
 have i:aK D arr (aK D arr l)=aK D arr l:=by show bG D arr (eu (aK D arr l)) 0 .new (aK D arr l)=_;rw[J8 ha];exact vX l 0 _ af.M8 h.nz ha
 rw[a];show bZ (eT (aK D arr (aK D arr l)))=_;rw[i,hS,d]
end
section
variable {D:Nat->Int->Int->Int}{arr:List Int}
def eP(D:Nat->Int->Int->Int)(arr:List Int):Nat->List In->List In|0,l=>l|n+1,l=>bC D arr (eP D arr n l)
def zI{l:List In}(h:∃x,l.getLast? =some x/\x.op=12):∃x,(aK D arr l).getLast? =some x/\x.op=12:=yo l 0 _ h
def NN(l:List In):(bC D arr l).length<=l.length:=by show(bZ (eT (aK D arr l))).length<=_;rw[Aj];have h:(aK D arr l).length=l.length:=jZ _ _ _ _ _ _;unfold atW;refine qzi (jxi _ _) ?_;rw[jqg,su,h];omega
def Ue{p:PrW}{f:FnP}{l:List In}(h:eG p f l):eG p {f with code:=bC D arr l} (bC D arr l):=by
 obtain⟨x,d,a⟩:=zI (D:=D) (arr:=arr) h.last;have hs:=Lc d a;have c:(aK D arr l).length=l.length:=jZ _ _ _ _ _ _;refine⟨PL (f:=f) (p:=p) (p':=p) (l:=eT (aK D arr l)) rfl (by rw[su,c,h.len]) rfl rfl rfl (λy g=>?_) hs a,rfl,⟨x,I5 hs a,a⟩⟩;rcases wU y g with e|e;·exact Or.inl e
 ·exact h.within y e
def qQ(l:List In):∀n,(eP D arr n l).length<=l.length|0=>qqf _|n+1=>qzi (NN _) (qQ l n)
def sW{p:PrW}{f:FnP}(h:eG p f f.code):∀n,eG p {f with code:=eP D arr n f.code} (eP D arr n f.code)|0=>h|n+1=>Ue (f:={f with code:=eP D arr n f.code}) (sW h n)
open Classical in def lU(D:Nat->Int->Int->Int)(arr:List Int)(l:List In):Nat:=2*dF l+(if bC D arr l=l then 0 else 1)
def Xe{p:PrW}{f:FnP}{l:List In}(h:eG p f l)(hn:bC D arr l≠l):lU D arr (bC D arr l)<lU D arr l:=by
 obtain⟨h1,h2⟩:=H8 (D:=D) (arr:=arr) h;unfold lU;rw[qzc hn];by_cases e:dF (bC D arr l)=dF l;·rw[qzb (h2 e)];omega
 ·split<;>omega
end
structure iw(D:Nat->Int->Int->Int)(p q:PrW):Prop where
 arrays:q.arrays=p.arrays
 main:q.main=p.main
 len:q.fns.length=p.fns.length
 fn:∀(i:Nat)(f g:FnP),p.fns[i]? =some f->q.fns[i]? =some g->g.name=f.name/\g.params=f.params/\g.vars=f.vars/\(∃n,g.code=eP D p.arrays n f.code)/\bC D p.arrays g.code=g.code
def nQ{p:PrW}(h:aP p=true){f:FnP}(hf:f∈p.fns):fnW p f=true:=by unfold aP at h;simp only[qqn,qqw]at h;exact h.2 f hf
def jg{p:PrW}(h:aP p=true){f:FnP}(hf:f∈p.fns):eG p f f.code:=by have h1:=nQ h hf;unfold fnW at h1;simp only[qqn,qqw]at h1;refine⟨h1.2,rfl,?_⟩;have h2:=h1.1.2;unfold lD at h2;cases hl:f.code.getLast? with|none=>rw[hl]at h2;cases h2|some x=>rw[hl]at h2;exact⟨x,rfl,by simpa using h2⟩
section
variable {D:Nat->Int->Int->Int}{p q:PrW}
def iw.at(h:iw D p q){i:Nat}{g:FnP}(a:q.fns[i]? =some g):∃f,p.fns[i]? =some f/\g.name=f.name/\g.params=f.params/\g.vars=f.vars/\(∃n,g.code=eP D p.arrays n f.code)/\bC D p.arrays g.code=g.code:=by have hi:=(qqi.1 a).1;rw[h.len]at hi;exact⟨p.fns[i],qqh hi,h.fn i _ g (qqh hi) a⟩
def iw.params(h:iw D p q):q.fns.map (·.params)=p.fns.map (·.params):=by apply jqk;intro i;rw[qqp,qqp];cases a:q.fns[i]? with|none=>rw[List.getElem?_eq_none_iff]at a;rw[qza (by rw[<-h.len];exact a)]|some g=>obtain⟨f,hf,_,e,_⟩:=h.at a;rw[hf];simp[e]
def Im{f:FnP}{x:In}(ha:q.arrays=p.arrays)(hf:q.fns.map (·.params)=p.fns.map (·.params)):dw q f x=dw p f x:=by
 have hn:q.fns.length=p.fns.length:=by have:=jqp List.length hf;simpa using this
 have hm:fC q x=fC p x:=by
  unfold fC;have:∀i:Nat,(q.fns[i]?).map (·.params)=(p.fns[i]?).map (·.params):=λi=>by rw[<-qqp,<-qqp,hf]
  rw[this]
 unfold dw;rw[hn,ha,hm]
def iw.codeOk(h:iw D p q)(l:aP p=true){g:FnP}(k:g∈q.fns):eG q g g.code/\bC D q.arrays g.code=g.code/\∃f,f∈p.fns/\g.params=f.params/\g.vars=f.vars/\g.code.length<=f.code.length:=by obtain⟨i,hi⟩:=jqs.1 k;obtain⟨f,hf,_,e,a,⟨n,c⟩,j⟩:=h.at hi;have d:=qqr hf;have hc:=sW (D:=D) (arr:=p.arrays) (jg l d) n;rw[<-c]at hc;refine⟨⟨λx m=>?_,rfl,hc.last⟩,by rw[h.arrays];exact j,f,d,e,a,by rw[c];exact qQ _ n⟩;rw[Im h.arrays h.params];have:=hc.one x m;rw[dB]at this⊢;rw[a];exact this
def iw.right(h:iw D p q)(a:aP p=true):aP q=true:=by
 have d:=a;unfold aP at a⊢;simp only[qqn,qqw]at a⊢;refine⟨⟨⟨by rw[h.arrays,h.len];exact a.1.1.1,?_⟩,by rw[h.arrays];exact a.1.2⟩,λg k=>?_⟩
 ·have hm:=a.1.1.2;unfold jF at hm⊢;have:∀i:Nat,(q.fns[i]?).map (·.params)=(p.fns[i]?).map (·.params):=λi=>by rw[<-qqp,<-qqp,h.params]
  rw[h.main,h.len,this];exact hm
 ·obtain⟨hc,_,f,hf,e,j,n⟩:=h.codeOk d k;have c:=nQ d hf;unfold fnW at c⊢;simp only[qqn,qqu,qqw]at c⊢;refine⟨⟨by rw[e,j];omega,?_⟩,hc.one⟩;obtain⟨x,l,m⟩:=hc.last;unfold lD;rw[l];simpa using m
end
section
variable (D:Nat->Int->Int->Int)
def iL(p:PrW)(x:In)(s:MS):MS:=if x.op=0 then s else bU D p x s
def ic(p:PrW)(s:MS):MS:=if s.ended then s else match atM p s.top.f s.top.i with|none=>s|some x=>iL D p x s.tick
def runN(p:PrW):Nat->MS->MS|0,s=>s|n+1,s=>runN p n (ic D p s)
def BQ{p:PrW}(h:∀f i x,atM p f i=some x->x.op≠0)(s:MS):ic D p s=gK D p s:=by
 unfold ic gK;split;·rfl
 ·cases a:atM p s.top.f s.top.i with|none=>rfl|some x=>simp only[iL];rw[qzc (h _ _ _ a)]
def FP{p:PrW}(h:∀f i x,atM p f i=some x->x.op≠0):∀(n:Nat)(s:MS),runN D p n s=runM D p n s|0,_=>rfl|n+1,s=>by simp only[runN,runM];rw[BQ D h];exact FP h n _
def jC(x:In)(vars a:List Int):Prop:=match bD x with|none=>a=vars|some v=>∃n,a=vars.set v.toNat n/\(x.op=1->n=x.n)/\(x.op=2->n=vars.getD x.a.toNat 0)/\(x.op=3->n=D x.bin (vars.getD x.a.toNat 0) (vars.getD x.b.toNat 0))
def kH{x:In}{vars:List Int}(h:fq x.op=false):jC D x vars vars:=by unfold jC bD;rw[h];rfl
def lF{x:In}{vars:List Int}(n:Int)(h:fq x.op=true)(h1:x.op=1->n=x.n)(h2:x.op=2->n=vars.getD x.a.toNat 0)(h3:x.op=3->n=D x.bin (vars.getD x.a.toNat 0) (vars.getD x.b.toNat 0)):jC D x vars (vars.set x.v.toNat n):=by unfold jC bD;rw[h];exact⟨n,rfl,h1,h2,h3⟩
def gN(J:Nat->Nat->List Int->Prop):List FrM->Prop|g::h::l=>(∀n,J g.f g.i (g.vars.set h.into n))/\gN J (h::l)|_=>True
structure uK(J:Nat->Nat->List Int->Prop)(s:MS):Prop where
 top:s.ended=false->J s.top.f s.top.i s.top.vars
 base:gN J (s.base++[s.top])
section
variable {D}{J:Nat->Nat->List Int->Prop}{s:MS}{p:PrW}
def oP{g g':FrM}(hi:g'.into=g.into):∀(l:List FrM),gN J (l++[g])->gN J (l++[g'])|[],_=>trivial|[a],h=>by simp only[jqm,jzj,gN]at h⊢;rw[hi];exact h|a::b::l,h=>by simp only[jqm,gN]at h⊢;exact⟨h.1,oP hi (b::l) h.2⟩
def Dv{g h:FrM}(hi:∀n,J g.f g.i (g.vars.set h.into n)):∀(l:List FrM),gN J (l++[g])->gN J ((l++[g])++[h])|[],_=>⟨hi,trivial⟩|[a],k=>by simp only[jqm,jzj,gN]at k⊢;exact⟨k.1,hi,trivial⟩|a::b::l,k=>by simp only[jqm,gN]at k⊢;exact⟨k.1,Dv hi (b::l) k.2⟩
def wX{g h:FrM}:∀(l:List FrM),gN J ((l++[g])++[h])->gN J (l++[g])/\∀n,J g.f g.i (g.vars.set h.into n)|[],k=>⟨trivial,k.1⟩|[a],k=>by simp only[jqm,jzj,gN]at k⊢;exact⟨⟨k.1,trivial⟩,k.2.1⟩|a::b::l,k=>by simp only[jqm,gN]at k⊢;exact⟨⟨k.1,(wX (b::l) k.2).1⟩,(wX (b::l) k.2).2⟩
def uK.to(h:uK J s){s':MS}(a:s'.base=s.base)(hi:s'.top.into=s.top.into)(hj:s'.ended=false->J s'.top.f s'.top.i s'.top.vars):uK J s':=⟨hj,by rw[a];exact oP hi _ h.base⟩
def Gc(m:∀f vars,J f 0 vars)(ho:∀x,atM p s.top.f s.top.i=some x->x.op<=14)(hs:∀x i2 a,atM p s.top.f s.top.i=some x->s.ended=false->J s.top.f s.top.i s.top.vars->i2∈bN x s.top.i->jC D x s.top.vars a->J s.top.f i2 a)(h:uK J s):uK J (ic D p s):=by unfold ic;cases he:s.ended with|true=>simp only[jzo];exact h|false=>simp only[qzr,jxa];cases k:atM p s.top.f s.top.i with|none=>exact h|some x=>
 simp only[];have t:=ho x k;have hj:=h.top he;have hs:=λi2 a=>hs x i2 a k he hj;have plain:∀a,x.op∉[10,12,13,14]->jC D x s.top.vars a->J s.top.f (s.top.i+1) a:=λa hn e=>hs _ _ (by simp only[qzh,qjh,jzq,not_or]at hn;unfold bN;rw[qzc hn.2.2.1,qzc hn.2.2.2,qzc oqo];simp) e;have r:x.op=0\/x.op=1\/x.op=2\/x.op=3\/x.op=4\/x.op=5\/x.op=6\/x.op=7\/x.op=8\/x.op=9\/x.op=10\/x.op=11\/x.op=12\/x.op=13\/x.op=14:=oqo;have d:∀n,¬(s.tick.see 4 n).ended=false:=λn e=>by simp[MS.see]at e
 have i:∀n,¬(s.tick.see 3 n).ended=false:=λn e=>by simp[MS.see]at e
 unfold iL;rcases r with e|e|e|e|e|e|e|e|e|e|e|e|e|e|e;·rw[qzb e];exact h.to rfl rfl λ_=>plain _ (by rw[e];decide) (kH D (by rw[e];rfl))
 ·rw[qzc oqo,tZ D e];exact h.to rfl rfl λ_=>plain _ (by rw[e];decide) (lF D _ (by rw[e];rfl) (λ_=>rfl) (λc=>by omega) (λc=>by omega))
 ·rw[qzc oqo,uk D e];exact h.to rfl rfl λ_=>plain _ (by rw[e];decide) (lF D _ (by rw[e];rfl) (λc=>by omega) (λ_=>rfl) (λc=>by omega))
 ·rw[qzc oqo,uj D e];exact h.to rfl rfl λ_=>plain _ (by rw[e];decide) (lF D _ (by rw[e];rfl) (λc=>by omega) (λc=>by omega) (λ_=>rfl))
 ·rw[qzc oqo,rC D e];split;·exact h.to rfl rfl λ_=>plain _ (by rw[e];decide) (lF D _ (by rw[e];rfl) (λc=>by omega) (λc=>by omega) (λc=>by omega))
  ·exact h.to rfl rfl λc=>absurd c (d _)
 ·rw[qzc oqo,rf D e];split;·exact h.to rfl rfl λ_=>plain _ (by rw[e];decide) (kH D (by rw[e];rfl))
  ·exact h.to rfl rfl λc=>absurd c (d _)
 ·rw[qzc oqo,pI D e];split;·exact h.to rfl rfl λ_=>plain _ (by rw[e];decide) (kH D (by rw[e];rfl))
  ·exact h.to rfl rfl λc=>absurd c (d _)
 ·rw[qzc oqo,pq D e];split;·exact h.to rfl rfl λc=>absurd c (d _)
  ·exact h.to rfl rfl λ_=>plain _ (by rw[e];decide) (kH D (by rw[e];rfl))
 ·rw[qzc oqo,wZ D e];exact h.to rfl rfl λ_=>plain _ (by rw[e];decide) (lF D _ (by rw[e];rfl) (λc=>by omega) (λc=>by omega) (λc=>by omega))
 ·rw[qzc oqo,qX D e];exact h.to rfl rfl λ_=>plain _ (by rw[e];decide) (kH D (by rw[e];rfl))
 ·rw[qzc oqo,nP D e];exact h.to rfl rfl λc=>absurd c (i _)
 ·rw[qzc oqo,ll D e];refine⟨λ_=>m _ _,Dv (λn=>?_) s.base (oP (g:=s.top) (g':=s.tick.top) rfl s.base h.base)⟩;exact plain _ (by rw[e];decide) (lF D _ (by rw[e];rfl) (λc=>by omega) (λc=>by omega) (λc=>by omega))
 ·rw[qzc oqo,nU D e];unfold MS.ret;cases o:s.tick.base.getLast? with|none=>exact h.to rfl rfl λc=>absurd c (i _)|some g=>obtain⟨l,hl⟩:∃l,s.base=l++[g]:=List.getLast?_eq_some_iff.1 o;have j:=h.base;rw[hl]at j;obtain⟨k1,k2⟩:=wX l j;refine⟨λ_=>k2 _,?_⟩;show gN J (s.base.dropLast++[_]);rw[hl,jxv];exact oP (g:=g) (g':={g with vars:=g.vars.set s.tick.top.into (s.tick.v x.a)}) rfl l k1
 ·rw[qzc oqo,qD D e];exact h.to rfl rfl λ_=>hs x.to.toNat s.top.vars (by unfold bN;rw[qzb e];simp) (kH D (by rw[e];rfl))
 ·rw[qzc oqo,lK D e];have hn:bN x s.top.i=[x.to.toNat,s.top.i+1]:=by unfold bN;rw[qzc oqo,qzb e]
  split;·exact h.to rfl rfl λ_=>hs x.to.toNat s.top.vars (by rw[hn];simp) (kH D (by rw[e];rfl))
  ·exact h.to rfl rfl λ_=>hs (s.top.i+1) s.top.vars (by rw[hn];simp) (kH D (by rw[e];rfl))
end
end
def Vl(vars:List Int)(k:Int):Int:=vars.getD k.toNat 0
structure qU(D:Nat->Int->Int->Int):Prop where
 zl:∀o y,o=1\/o=9\/o=10->I64 y->D o 0 y=y
 zr:∀o x,o=1\/o=9\/o=10\/o=2\/o=11\/o=13->I64 x->D o x 0=x
 ml:∀y,I64 y->D 3 1 y=y
 mr:∀x,I64 x->D 3 x 1=x
 nl:∀y,D 3 0 y=0
 nr:∀x,D 3 x 0=0
section
variable (D:Nat->Int->Int->Int)
structure Facts(b:af)(vars:List Int):Prop where
 num:∀v n,0<=v->b.num v=some n->Vl vars v=n
 cp:∀v o,0<=v->b.cp v=some o->0<=o/\Vl vars v=Vl vars o
 dD:∀o x y v,0<=x->0<=y->b.dD o x y=some v->0<=v/\Vl vars v=D o (Vl vars x) (Vl vars y)
def wG(vars:List Int):Facts D .new vars:=⟨λ_ _ _ e=>(by cases e),λ_ _ _ e=>(by cases e),λ_ _ _ _ _ _ e=>(by cases e)⟩
def gH{vars:List Int}{v k n:Int}(hv:0<=v)(hk:0<=k)(h:k≠v):Vl (vars.set v.toNat n) k=Vl vars k:=by unfold Vl;rw[qqm,qqm,jqd oqo]
def Fz{vars:List Int}{v n:Int}(hv:v.toNat<vars.length):Vl (vars.set v.toNat n) v=n:=by unfold Vl;rw[qqm,jqb hv];rfl
def Ch{vars:List Int}{v:Int}:vars.set v.toNat (Vl vars v)=vars:=by
 unfold Vl;apply jqk;intro i;by_cases hi:i=v.toNat
 ·subst hi;by_cases hl:v.toNat<vars.length;·rw[jqb hl,qqm,qqh hl];rfl
  ·rw[qza (by simpa using hl),qza (by simpa using hl)]
 ·rw[jqd oqo]
variable {D}{b:af}{vars:List Int}
def Facts.put(h:Facts D b vars){v:Int}(hv:0<=v)(n:Int):Facts D (b.put v) (vars.set v.toNat n):=by
 refine⟨λx m a e=>?_,λx o a e=>?_,λo x y u a f e=>?_⟩
 ·simp only[af.put]at e;split at e;·cases e
  ·rename_i d;rw[gH hv a d];exact h.num x m a e
 ·simp only[af.put]at e;split at e;·cases e
  ·rename_i d;split at e;·cases e
   ·rename_i h2;obtain⟨k1,k2⟩:=h.cp x o a e;exact⟨k1,by rw[gH hv a d,gH hv k1 (λc=>h2 (by rw[e,c]))];exact k2⟩
 ·simp only[af.put]at e;split at e;·cases e
  ·rename_i d;split at e;·cases e
   ·rename_i h2;obtain⟨k1,k2⟩:=h.dD o x y u a f e;exact⟨k1,by rw[gH hv a (λc=>d (Or.inl c)),gH hv f (λc=>d (Or.inr c)),gH hv k1 (λc=>h2 (by rw[e,c]))];exact k2⟩
def Facts.jP(h:Facts D b vars){v n:Int}(e:Vl vars v=n):Facts D (b.jP v n) vars:=⟨λx m a k=>by
  simp only[af.jP]at k;split at k;·rename_i c;subst c;cases k;exact e
  ·exact h.num x m a k,h.cp,h.dD⟩
def Facts.aV(h:Facts D b vars){v a:Int}(ha:0<=a)(e:Vl vars v=Vl vars a):Facts D (b.aV v a) vars:=⟨h.num,λx m c k=>by
  simp only[af.aV]at k;split at k;·rename_i d;subst d;cases k;exact⟨ha,e⟩
  ·exact h.cp x m c k,h.dD⟩
def Facts.qN(h:Facts D b vars){o:Nat}{x y v:Int}(hv:0<=v)(e:Vl vars v=D o (Vl vars x) (Vl vars y)):Facts D (b.qN o x y v) vars:=⟨h.num,h.cp,λd f g u a c k=>by
  simp only[af.qN]at k;split at k;·rename_i hc;obtain⟨rfl,rfl,rfl⟩:=hc;cases k;exact⟨hv,e⟩
  ·exact h.dD d f g u a c k⟩
structure InR(x:In)(m:Nat):Prop where
 v:fq x.op=true->0<=x.v/\x.v.toNat<m
 a:fH x.op=true->0<=x.a
 b:hasB x.op=true->0<=x.b
 args:∀v∈x.args,0<=v
def Facts.does(h:Facts D b vars){x:In}(hr:InR x vars.length){j:List Int}(he:jC D x vars j):Facts D (b.does x) j:=by
 unfold jC bD at he;unfold af.does bD;by_cases d:fq x.op=true
 ·rw[qzb d]at he⊢;simp only[]at he⊢;obtain⟨n,rfl,k,g,l⟩:=he;obtain⟨v0,t⟩:=hr.v d;have a:=h.put v0 n;have hs:Vl (vars.set x.v.toNat n) x.v=n:=Fz t;split;·rename_i r;exact a.jP (by rw[hs];exact k r)
  ·split
   ·rename_i e;have ha:=hr.a (by rw[e];rfl);have hc:Facts D ((b.put x.v).aV x.v x.a) (vars.set x.v.toNat n):=a.aV ha (by
     by_cases i:x.a=x.v;·rw[i]
     ·rw[hs,gH v0 ha i];exact g e);split;·rename_i m hm;exact hc.jP (by rw[hs,g e];exact h.num _ _ ha hm)
    ·exact hc
   ·split
    ·rename_i f;have ha:=hr.a (by rw[f];rfl);have o:=hr.b (by rw[f];rfl);split;·rename_i hn;exact a.qN v0 (by rw[hs,gH v0 ha (λc=>hn.1 c.symm),gH v0 o (λc=>hn.2 c.symm)];exact l f)
     ·exact a
    ·exact a
 ·rw[qzc d]at he⊢;simp only[]at he⊢;rw[he];exact h
def Facts.root(h:Facts D b vars){v:Int}(hv:0<=v):0<=b.root v/\Vl vars (b.root v)=Vl vars v:=by unfold af.root;cases e:b.cp v with|none=>exact⟨hv,rfl⟩|some o=>obtain⟨k1,k2⟩:=h.cp v o hv e;exact⟨k1,k2.symm⟩
def iZ(D:Nat->Int->Int->Int)(y:In)(vars:List Int):List Int:=if y.op=0 then vars else vars.set y.v.toNat (if y.op=1 then y.n else if y.op=2 then Vl vars y.a else D y.bin (Vl vars y.a) (Vl vars y.b))
def MS.ZB(s:MS)(vars:List Int):MS:={s with top:={s.top with vars:=vars}}
def BM{p:PrW}{y:In}{s:MS}(h:y.op<=3):iL D p y s=s.ZB (iZ D y s.top.vars):=by
 unfold iL iZ;have hc:y.op=0\/y.op=1\/y.op=2\/y.op=3:=oqo;rcases hc with e|e|e|e;·rw[qzb e,qzb e];rfl
 ·rw[qzc oqo,qzc oqo,qzb e,tZ D e];rfl
 ·rw[qzc oqo,qzc oqo,qzc oqo,qzb e,uk D e];rfl
 ·rw[qzc oqo,qzc oqo,qzc oqo,qzc oqo,uj D e];rfl
def P_1{x:In}(h:x.op=1):iZ D x vars=vars.set x.v.toNat x.n:=by unfold iZ;rw[qzc oqo,qzb h]
def P_2{x:In}(h:x.op=2):iZ D x vars=vars.set x.v.toNat (Vl vars x.a):=by unfold iZ;rw[qzc oqo,qzc oqo,qzb h]
def P_3{x:In}(h:x.op=3):iZ D x vars=vars.set x.v.toNat (D x.bin (Vl vars x.a) (Vl vars x.b)):=by unfold iZ;rw[qzc oqo,qzc oqo,qzc oqo]
def OX{y:In}(h:y.op<=3):jC D y vars (iZ D y vars):=by
 have hc:y.op=0\/y.op=1\/y.op=2\/y.op=3:=oqo;rcases hc with e|e|e|e
 ·have:iZ D y vars=vars:=by unfold iZ;rw[qzb e]
  rw[this];exact kH D (by rw[e];rfl)
 ·rw[P_1 e];exact lF D _ (by rw[e];rfl) (λ_=>rfl) (λc=>by omega) (λc=>by omega)
 ·rw[P_2 e];exact lF D _ (by rw[e];rfl) (λc=>by omega) (λ_=>rfl) (λc=>by omega)
 ·rw[P_3 e];exact lF D _ (by rw[e];rfl) (λc=>by omega) (λc=>by omega) (λ_=>rfl)
def Nr{y:In}(h:y.op<=3){a:List Int}(k:jC D y vars a):a=iZ D y vars:=by
 unfold jC bD at k;unfold iZ;have hc:y.op=0\/y.op=1\/y.op=2\/y.op=3:=oqo;rcases hc with e|e|e|e;·rw[e]at k;rw[qzb e];exact k
 ·rw[qzb (by rw[e];rfl)]at k;obtain⟨n,r,k1,k2,k3⟩:=k;rw[qzc oqo,qzb e,r,k1 e]
 ·rw[qzb (by rw[e];rfl)]at k;obtain⟨n,r,k1,k2,k3⟩:=k;rw[qzc oqo,qzc oqo,qzb e,r,k2 e];rfl
 ·rw[qzb (by rw[e];rfl)]at k;obtain⟨n,r,k1,k2,k3⟩:=k;rw[qzc oqo,qzc oqo,qzc oqo,r,k3 e];rfl
def ED:iZ D {} vars=vars:=rfl
def Co(v n:Int):iZ D (fQ v n) vars=vars.set v.toNat n:=rfl
def xW(v a:Int):(aS (bn v a)).op<=3/\iZ D (aS (bn v a)) vars=vars.set v.toNat (Vl vars a):=by
 unfold aS;split;·rename_i h;have h:v=a:=h;subst h;exact⟨by decide,by rw[ED,Ch]⟩
 ·exact⟨by show(2:Nat)<=3;decide,rfl⟩
def JP(h:Facts D b vars){x:In}(a:x.op=2)(ha:0<=x.a):(b.dR x).op<=3/\iZ D (b.dR x) vars=vars.set x.v.toNat (Vl vars x.a):=by
 unfold af.dR;split;·rename_i e;exact⟨by decide,by rw[ED,e,Ch]⟩
 ·split;·rename_i n hn;exact⟨by show(1:Nat)<=3;decide,by rw[Co,h.num _ _ ha hn]⟩
  ·exact⟨by omega,P_2 a⟩
def VC(a:qU D){x:In}(f:x.op=3)(n m:Option Int)(hn:∀k,n=some k->Vl vars x.a=k)(hm:∀k,m=some k->Vl vars x.b=k)(c:I64 (Vl vars x.a))(d:I64 (Vl vars x.b)):(ak x n m).op<=3/\iZ D (ak x n m) vars=vars.set x.v.toNat (D x.bin (Vl vars x.a) (Vl vars x.b)):=by
 unfold ak;split;·rename_i h;obtain⟨k1,k2⟩:=xW (D:=D) (vars:=vars) x.v x.b;exact⟨k1,by rw[k2,hn 0 h.2,a.zl _ _ h.1 d]⟩
 ·split;·rename_i h;obtain⟨k1,k2⟩:=xW (D:=D) (vars:=vars) x.v x.a;exact⟨k1,by rw[k2,hm 0 h.2,a.zr _ _ h.1 c]⟩
  ·split;·rename_i h;obtain⟨k1,k2⟩:=xW (D:=D) (vars:=vars) x.v x.b;exact⟨k1,by rw[k2,hn 1 h.2,h.1,a.ml _ d]⟩
   ·split;·rename_i h;obtain⟨k1,k2⟩:=xW (D:=D) (vars:=vars) x.v x.a;exact⟨k1,by rw[k2,hm 1 h.2,h.1,a.mr _ c]⟩
    ·split
     ·rename_i h;refine⟨by show(1:Nat)<=3;decide,?_⟩;rw[Co,h.1];rcases h.2 with e|e;·rw[hn 0 e,a.nl]
      ·rw[hm 0 e,a.nr]
     ·exact⟨by omega,P_3 f⟩
def XG(c:qU D)(h:Facts D b vars){x:In}(f:x.op=3)(hv:0<=x.v)(ha:0<=x.a)(a:0<=x.b)(hi:∀n∈vars,I64 n):(b.iK D x).op<=3/\iZ D (b.iK D x) vars=vars.set x.v.toNat (D x.bin (Vl vars x.a) (Vl vars x.b)):=by
 unfold af.iK;split;·rename_i hk;obtain⟨n,hn⟩:=jzu.1 hk.1;obtain⟨m,hm⟩:=jzu.1 hk.2.1;exact⟨by show(1:Nat)<=3;decide,by rw[Co,hn,hm,h.num _ _ ha hn,h.num _ _ a hm];rfl⟩
 ·split
  ·rename_i v d;obtain⟨k1,k2⟩:=h.dD _ _ _ _ ha a d;split;·rename_i e;exact⟨by decide,by rw[ED,<-k2,e,Ch]⟩
   ·obtain⟨j,l⟩:=h.root k1;obtain⟨g,i⟩:=JP h (x:=bn x.v (b.root v)) rfl j;exact⟨g,by rw[i];show vars.set x.v.toNat (Vl vars (b.root v))=_;rw[l,k2]⟩
  ·exact VC c f _ _ (λk e=>h.num _ _ ha e) (λk e=>h.num _ _ a e) (zF hi _) (zF hi _)
def Dn(f:qU D)(h:Facts D b vars){arr:List Int}{x:In}(i:x.op=2\/x.op=3)(hr:InR x vars.length)(hi:∀n∈vars,I64 n):(b.shorter D arr x).op<=3/\iZ D (b.shorter D arr x) vars=iZ D x vars:=by
 unfold af.shorter af.bB;rcases i with e|e;·have ha:=hr.a (by rw[e];rfl);have he:b.rooted x={x with a:=b.root x.a}:=nZ b (by rw[e];decide) (by rw[e];rfl);obtain⟨c,d⟩:=h.root ha;rw[he,qzb (show({x with a:=b.root x.a}:In).op=2 from e)];obtain⟨k1,k2⟩:=JP h (x:={x with a:=b.root x.a}) e c;exact⟨k1,by rw[k2,P_2 e];show vars.set x.v.toNat (Vl vars (b.root x.a))=_;rw[d]⟩
 ·have ha:=hr.a (by rw[e];rfl);have g:=hr.b (by rw[e];rfl);have hv:=hr.v (by rw[e];rfl);have he:b.rooted x={x with a:=b.root x.a,b:=b.root x.b}:=lY b (by rw[e];rfl);obtain⟨c,d⟩:=h.root ha;obtain⟨j,k⟩:=h.root g;rw[he,qzc (show¬({x with a:=b.root x.a,b:=b.root x.b}:In).op=2 by show¬x.op=2;omega),qzb (show({x with a:=b.root x.a,b:=b.root x.b}:In).op=3 from e)];obtain⟨k1,k2⟩:=XG f h (x:={x with a:=b.root x.a,b:=b.root x.b}) e hv.1 c j hi;exact⟨k1,by rw[k2,P_3 e];show vars.set x.v.toNat (D x.bin (Vl vars (b.root x.a)) (Vl vars (b.root x.b)))=_;rw[d,k]⟩
def vO{arr:List Int}{x:In}(h2:x.op≠2)(h3:x.op≠3):(b.shorter D arr x=b.rooted x\/(fq x.op=false/\(b.shorter D arr x).op∈[0,13])):=by
 unfold af.shorter af.bB;have ho:=dV b x;rw[ho,qzc h2,qzc h3];split
 ·rename_i e;split
  ·split;·right;exact⟨by rw[e];rfl,by simp⟩
   ·exact Or.inl rfl
  ·exact Or.inl rfl
 ·split
  ·rename_i e;split
   ·split;·right;exact⟨by rw[e];rfl,by simp⟩
    ·exact Or.inl rfl
   ·exact Or.inl rfl
  ·split
   ·rename_i e;split
    ·split;·right;exact⟨by rw[e];rfl,by simp⟩
     ·right;exact⟨by rw[e];rfl,by simp⟩
    ·exact Or.inl rfl
   ·exact Or.inl rfl
def I9(j:qU D)(h:Facts D b vars){arr:List Int}{x:In}(hr:InR x vars.length)(hi:∀n∈vars,I64 n){f:List Int}(he:jC D x vars f):jC D (b.shorter D arr x) vars f:=by
 by_cases d:x.op=2\/x.op=3;·obtain⟨k1,k2⟩:=Dn (arr:=arr) j h d hr hi;rw[Nr (y:=x) oqo he,<-k2];exact OX k1
 ·rcases vO (D:=D) (b:=b) (arr:=arr) (λc=>d (Or.inl c)) (λc=>d (Or.inr c))with e|⟨i,a⟩
  ·rw[e];unfold jC bD at he⊢;rw[dV,GL];by_cases g:fq x.op=true;·rw[qzb g]at he⊢;obtain⟨n,r,k1,k2,k3⟩:=he;refine⟨n,r,λc=>?_,λc=>absurd (Or.inl c) d,λc=>absurd (Or.inr c) d⟩;rw[k1 c];unfold af.rooted;rw[c];rfl
   ·rw[qzc g]at he⊢;exact he
  ·have h3:jC D x vars f=(f=vars):=by unfold jC bD;rw[qzc (by rw[i];decide)]
   rw[h3]at he;subst he;refine kH D ?_;simp only[qzh,qjh,jzq]at a;rcases a with a|a<;>rw[a]<;>rfl
end
section
variable {D:Nat->Int->Int->Int}{b:af}{p:PrW}{s:MS}
def OH(a:s.arr.map (·.length)=p.arrays.map (·.toNat)){x:In}{n:Int}(h0:0<=n)(h1:n<vH p.arrays x):∃m,s.cell x.arr n=some m:=by
 unfold MS.cell;rw[qzb h0];have h2:(s.arr.map (·.length))[x.arr.toNat]? =(p.arrays.map (·.toNat))[x.arr.toNat]?:=by rw[a]
 rw[qqp,qqp]at h2;unfold vH at h1;cases ha:p.arrays[x.arr.toNat]? with|none=>rw[ha]at h1;simp at h1;omega|some m=>rw[ha]at h1 h2;cases hs:s.arr[x.arr.toNat]? with|none=>rw[hs]at h2;simp at h2|some l=>rw[hs]at h2;simp only[jqf,qzk]at h2;simp only[qzm]at h1⊢;exact⟨l[n.toNat]' oqo,qqh oqo⟩
def jV{x:In}(h:x.op≠0):iL D p x s=bU D p x s:=by unfold iL;rw[qzc h]
def zm:iL D p {} s=s:=rfl
def PO(h:Facts D b s.top.vars)(a:s.arr.map (·.length)=p.arrays.map (·.toNat)){y:In}(h2:y.op≠2)(h3:y.op≠3)(ha:fH y.op=true->0<=y.a):iL D p (b.bB D p.arrays y) s=iL D p y s:=by
 have hv:∀n,fH y.op=true->b.num y.a=some n->s.v y.a=n:=λn k e=>h.num _ _ (ha k) e;unfold af.bB;rw[qzc h2,qzc h3];split
 ·rename_i e;have hv:=λn=>hv n (by rw[e];rfl);split
  ·rename_i n hn;split;·rename_i hr;rw[zm,jV oqo,pI D e,hv n hn];obtain⟨m,hm⟩:=OH a hr.1 hr.2;rw[hm]
   ·rfl
  ·rfl
 ·split
  ·rename_i e;have hv:=λn=>hv n (by rw[e];rfl);split
   ·rename_i n hn;split;·rename_i hr;rw[zm,jV oqo,pq D e,hv n hn,qzc hr]
    ·rfl
   ·rfl
  ·split
   ·rename_i e;have hv:=λn=>hv n (by rw[e];rfl);split
    ·rename_i n hn;split;·rename_i hr;rw[jV (x:=y) oqo,lK D e,hv n hn,qzb hr];rfl
     ·rename_i hr;rw[zm,jV oqo,lK D e,hv n hn,qzc hr]
    ·rfl
   ·rfl
def I4(h:Facts D b s.top.vars){x:In}(ho:1<=x.op/\x.op<=14)(h2:x.op≠2)(h3:x.op≠3)(ha:fH x.op=true->0<=x.a)(l:hasB x.op=true->0<=x.b)(m:∀v∈x.args,0<=v):iL D p (b.rooted x) s=iL D p x s:=by
 have hv:∀k,0<=k->s.v (b.root k)=s.v k:=λk hk=>(h.root hk).2;have n:=dV b x;rw[jV oqo,jV oqo];by_cases d:hasB x.op=true
 ·have i:x.op=5:=by unfold hasB at d;simp at d;omega
  have c:=hv _ (ha (by rw[i];rfl));have j:=hv _ (l d);rw[lY b d,rf D i,rf D (x:={x with a:=b.root x.a,b:=b.root x.b}) i];simp only[c,j]
 by_cases f:fH x.op=true
 ·have c:=hv _ (ha f);rw[nZ b d f];have hc:x.op=4\/x.op=6\/x.op=7\/x.op=9\/x.op=10\/x.op=12\/x.op=14:=by unfold fH at f;unfold hasB at d;simp at f d;omega
  rcases hc with e|e|e|e|e|e|e;·rw[rC D e,rC D (x:={x with a:=b.root x.a}) e];simp only[c]
  ·rw[pI D e,pI D (x:={x with a:=b.root x.a}) e];simp only[c]
  ·rw[pq D e,pq D (x:={x with a:=b.root x.a}) e];simp only[c]
  ·rw[qX D e,qX D (x:={x with a:=b.root x.a}) e];simp only[c]
  ·rw[nP D e,nP D (x:={x with a:=b.root x.a}) e];simp only[c]
  ·rw[nU D e,nU D (x:={x with a:=b.root x.a}) e];simp only[c]
  ·rw[lK D e,lK D (x:={x with a:=b.root x.a}) e];simp only[c]
 by_cases g:x.op=11;·rw[zH b d f g,ll D g,ll D (x:={x with args:=x.args.map b.root}) g];show s.enter p x.f x.v ((x.args.map b.root).map s.v)=_;rw[qzx];congr 1;exact jqj λk hk=>hv k (m k hk)
 ·rw[yL b d f g]
def InR.of{fn:FnP}{x:In}(ho:Bp p fn x){m:Nat}(hl:(m:Int)=fn.vars):InR x m:=⟨λe=>by have:=ho.v e;omega,λe=>(ho.a e).1,λe=>(ho.b e).1,λv hv=>(ho.args v hv).1⟩
def GR(f:qU D)(h:Facts D b s.top.vars){fn:FnP}{x:In}(ho:Bp p fn x)(hl:(s.top.vars.length:Int)=fn.vars)(hi:∀n∈s.top.vars,I64 n)(g:s.arr.map (·.length)=p.arrays.map (·.toNat)):iL D p (b.shorter D p.arrays x) s=iL D p x s:=by
 have hr:=InR.of ho hl;have i:=ho.op;by_cases d:x.op=2\/x.op=3;·obtain⟨k1,k2⟩:=Dn (arr:=p.arrays) f h d hr hi;rw[BM k1,BM oqo,k2]
 ·have h2:x.op≠2:=λc=>d (Or.inl c);have h3:x.op≠3:=λc=>d (Or.inr c);have ro:=dV b x;show iL D p (b.bB D p.arrays (b.rooted x)) s=_;rw[PO h g (by rw[ro];exact h2) (by rw[ro];exact h3),I4 h i h2 h3 hr.a hr.b hr.args];intro a;rw[ro]at a;by_cases e:hasB x.op=true;·rw[lY b e];exact(h.root (hr.a a)).1
  ·rw[nZ b e a];exact(h.root (hr.a a)).1
def InR.no(m:Nat):InR {} m:=⟨λh=>by simp[fq]at h,λh=>by simp[fH]at h,λh=>by simp[hasB]at h,λv h=>by cases h⟩
def InR.const{v n:Int}{m:Nat}(hv:0<=v/\v.toNat<m):InR (fQ v n) m:=⟨λ_=>hv,λh=>by simp[fQ,fH]at h,λh=>by simp[fQ,hasB]at h,λv h=>by simp[fQ]at h⟩
def InR.copy{v a:Int}{m:Nat}(hv:0<=v/\v.toNat<m)(ha:0<=a):InR (bn v a) m:=⟨λ_=>hv,λ_=>ha,λh=>by simp[bn,hasB]at h,λv h=>by simp[bn]at h⟩
def InR.moved{x:In}{m:Nat}(h:InR x m):InR (aS x) m:=by
 unfold aS;split;·exact InR.no m
 ·exact h
def InR.dR{x:In}{m:Nat}(a:x.op=2)(h:InR x m):InR (b.dR x) m:=by
 unfold af.dR;split;·exact InR.no m
 ·split;·exact InR.const (h.v (by rw[a];rfl))
  ·exact h
def InR.same{x:In}{m:Nat}(a:x.op=3)(h:InR x m)(n k:Option Int):InR (ak x n k) m:=by
 have hv:=h.v (by rw[a];rfl);have m1:=(InR.copy hv (h.b (by rw[a];rfl))).moved;have m2:=(InR.copy hv (h.a (by rw[a];rfl))).moved;have m3:InR (fQ x.v 0) m:=InR.const hv;have key:∀(c:Prop) [Decidable c](y z:In),InR y m->InR z m->InR (if c then y else z) m:=λc _ y z h1 h2=>by
  by_cases hc:c;·rw[qzb hc];exact h1
  ·rw[qzc hc];exact h2
 unfold ak;exact key _ _ _ m1 (key _ _ _ m2 (key _ _ _ m1 (key _ _ _ m2 (key _ _ _ m3 h))))
def InR.shorter{vars:List Int}(h:Facts D b vars){arr:List Int}{x:In}{m:Nat}(hr:InR x m):InR (b.shorter D arr x) m:=by
 have d:InR (b.rooted x) m:=by
  refine⟨λe=>?_,λe=>?_,λe=>?_,λv e=>?_⟩;·rw[dV]at e;rw[GL];exact hr.v e
  ·rw[dV]at e;by_cases g:hasB x.op=true;·rw[lY b g];exact(h.root (hr.a e)).1
   ·rw[nZ b g e];exact(h.root (hr.a e)).1
  ·rw[dV]at e;rw[lY b e];exact(h.root (hr.b e)).1
  ·unfold af.rooted at e;split at e;·exact hr.args v e
   ·split at e;·exact hr.args v e
    ·split at e;·obtain⟨u,hu,rfl⟩:=qjb.1 e;exact(h.root (hr.args u hu)).1
     ·exact hr.args v e
 by_cases h2:x.op=2
 ·have:b.shorter D arr x=b.dR (b.rooted x):=by unfold af.shorter af.bB;rw[dV,qzb h2]
  rw[this];exact InR.dR (by rw[dV];exact h2) d
 ·by_cases h3:x.op=3
  ·have e:b.shorter D arr x=b.iK D (b.rooted x):=by unfold af.shorter af.bB;rw[dV,qzc h2,qzb h3]
   have f:(b.rooted x).op=3:=by rw[dV];exact h3
   have hv:=d.v (by rw[f];rfl);rw[e];unfold af.iK;split;·exact InR.const hv
   ·split
    ·rename_i v o;obtain⟨k1,k2⟩:=h.dD _ _ _ _ (d.a (by rw[f];rfl)) (d.b (by rw[f];rfl)) o;split;·exact InR.no m
     ·exact InR.dR rfl (InR.copy hv (h.root k1).1)
    ·exact InR.same f d _ _
  ·rcases vO (D:=D) (b:=b) (arr:=arr) h2 h3 with e|⟨t,j⟩;·rw[e];exact d
   ·have key:∀y:In,y.op∈[0,13]->y.args=[]->InR y m:=λy a r=>by
     simp only[qzh,qjh,jzq]at a;refine⟨λc=>?_,λc=>?_,λc=>?_,λv c=>?_⟩;·rcases a with a|a<;>rw[a]at c<;>cases c
     ·rcases a with a|a<;>rw[a]at c<;>cases c
     ·rcases a with a|a<;>rw[a]at c<;>cases c
     ·rw[r]at c;cases c
    by_cases a:b.shorter D arr x=b.rooted x;·rw[a];exact d
    ·refine key _ j ?_;unfold af.shorter af.bB at a⊢;rw[dV,qzc h2,qzc h3]at a⊢;split
     ·rename_i e;rw[qzb e]at a;split
      ·rename_i n hn;simp only[hn]at a;split;·rfl
       ·rename_i hc;rw[qzc hc]at a;exact absurd rfl a
      ·rename_i hn;simp only[hn]at a;exact absurd trivial a
     ·rename_i k;rw[qzc k]at a;split
      ·rename_i e;rw[qzb e]at a;split
       ·rename_i n hn;simp only[hn]at a;split;·rfl
        ·rename_i hc;rw[qzc hc]at a;exact absurd rfl a
       ·rename_i hn;simp only[hn]at a;exact absurd trivial a
      ·rename_i l;rw[qzc l]at a;split
       ·rename_i e;rw[qzb e]at a;split;·split<;>rfl
        ·rename_i hn;simp only[hn]at a;exact absurd trivial a
       ·rename_i i;rw[qzc i]at a;exact absurd rfl a
def Dm{arr:List Int}{lead:Nat->Bool}:∀(l:List In)(i:Nat)(b:af),∃B:Nat->af,B i=(if lead i then .new else b)/\(∀j,lead j=true->i<=j->B j=.new)/\∀j x,l[j]? =some x->(bG D arr lead i b l)[j]? =some ((B (i+j)).shorter D arr x)/\(lead (i+j+1)=false->B (i+j+1)=(B (i+j)).does ((B (i+j)).shorter D arr x))
 | [],i,b=>⟨λj=>if j=i then(if lead i then .new else b)else .new,by simp,λj hj _=>by
   simp only[];split;·rename_i e;rw[e]at hj;rw[qzb hj]
   ·rfl,λj x c=>by simp at c⟩|x::l,i,b=>by
  obtain⟨B,h1,h2,h3⟩:=Dm (arr:=arr) (lead:=lead) l (i+1) ((if lead i then af.new else b).does ((if lead i then af.new else b).shorter D arr x));refine⟨λj=>if j=i then(if lead i then .new else b)else B j,by simp,λj hj d=>?_,λj y a=>?_⟩
  ·simp only[];split;·rename_i e;rw[e]at hj;rw[qzb hj]
   ·exact h2 j hj oqo
  ·cases j with|zero=>simp at a;subst a;refine⟨by simp[bG],λhl=>?_⟩;simp only[qzz,jzo]at hl⊢;rw[qzc oqo,h1,hl];rfl|succ j=>have:=h3 j y (by simpa using a);rw[show i+1+j=i+(j+1)by omega]at this;simp only[];rw[qzc oqo,qzc oqo];exact⟨by simpa [bG]using this.1,this.2⟩
def NF{l:List In}{i k:Nat}{x:In}(d:l[i]? =some x)(hk:k∈bN x i):eu l k=true\/(k=i+1/\x.op∉[10,12,13,14]):=by
 have hm:=qqr d;unfold bN at hk;by_cases c:x.op=13;·rw[qzb c]at hk;simp at hk;left;unfold eu;simp only[qji,jze,qqn,jzb];exact Or.inl (Or.inr ⟨x,hm,Or.inl c,hk.symm⟩)
 rw[qzc c]at hk;by_cases a:x.op=14
 ·rw[qzb a]at hk;simp at hk;left;unfold eu;simp only[qji,jze,qqn,jzb];rcases hk with hk|hk;·exact Or.inl (Or.inr ⟨x,hm,Or.inr a,hk.symm⟩)
  ·right;rw[hk];simp only[d];simp[a]
 rw[qzc a]at hk;by_cases e:x.op=12\/x.op=10;·rw[qzb e]at hk;cases hk
 ·rw[qzc e]at hk;simp at hk;right;refine⟨hk,?_⟩;simp only[qzh,qjh,jzq,not_or];omega
def PrW.code(p:PrW)(k:Nat)(f:FnP)(l:List In):PrW:={p with fns:=p.fns.set k {f with code:=l}}
def nW{k:Nat}{f:FnP}{l:List In}(hf:p.fns[k]? =some f)(g i:Nat):atM (p.code k f l) g i=if g=k then l[i]? else atM p g i:=by
 unfold atM PrW.code;have hk:=(qqi.1 hf).1;by_cases e:g=k;·subst e;rw[qzb rfl,jqb hk];rfl
 ·rw[qzc e,jqd (λc=>e c.symm)]
def xw{k:Nat}{f:FnP}{l:List In}(hf:p.fns[k]? =some f)(g:Int):fT (p.code k f l) g=fT p g:=by
 unfold fT PrW.code;have hk:=(qqi.1 hf).1;by_cases e:g.toNat=k;·simp only[e,jqb hk,hf];rfl
 ·simp only[];rw[jqd (λc=>e c.symm)]
def sj{k:Nat}{f:FnP}{l:List In}(hf:p.fns[k]? =some f)(x:In):iL D (p.code k f l) x s=iL D p x s:=by
 unfold iL;split;·rfl
 ·by_cases h:x.op=11;·rw[ll D h,ll D h];unfold MS.enter;rw[xw hf]
  ·unfold bU;simp only[qzc h]
def MP(z:qU D)(G:∀o a b,I64 (D o a b))(g:mY p)(hc:∀x:In,(∃f∈p.fns,x∈f.code)->I64 x.n){k:Nat}{f:FnP}(hf:p.fns[k]? =some f)(m:MOk p s)(h0:s.base=[])(h1:s.top.i=0)(n:Nat):runN D (p.code k f (aK D p.arrays f.code)) n s=runM D p n s:=by
 obtain⟨B,b1,b2,w⟩:=Dm (D:=D) (arr:=p.arrays) (lead:=eu f.code) f.code 0 .new;have A:∀f i x,atM p f i=some x->x.op≠0:=λf i x M=>by obtain⟨fn,u,F⟩:=BJ M;have:=((g.fns fn (qqr u)).code x (qqr F)).op;omega
 have key:∀(n:Nat)(s:MS),MOk p s->uK (λq i vars=>q=k->Facts D (B i) vars) s->runN D (p.code k f (aK D p.arrays f.code)) n s=runM D p n s:=by intro n;induction n with|zero=>intro s _ _;rfl|succ n ih=>
   intro s m hJ;simp only[runN,runM]
   cases he:s.ended with|true=>
    have u:ic D (p.code k f (aK D p.arrays f.code)) s=s:=by unfold ic;rw[he];rfl
    rw[u,ql D he];exact ih s m hJ|false=>
   obtain⟨fn,x,r,v,l,ho,O,C,_⟩:=m.inst g he;have hr:=InR.of ho C;have hi:=m.jL.ints;have L:ic D (p.code k f (aK D p.arrays f.code)) s=gK D p s:=by
    rw[<-BQ D A];unfold ic;rw[he,l,nW hf];simp only[qzr,jxa];by_cases d:s.top.f=k;·rw[qzb d];rw[d,hf]at r;cases r;obtain⟨t,_⟩:=w s.top.i x v;rw[qja]at t;show(match(bG D p.arrays (eu f.code) 0 .new f.code)[s.top.i]? with|none=>s|some x=>iL D (p.code k f (aK D p.arrays f.code)) x s.tick)=_;rw[t];simp only[];rw[sj hf];exact GR (s:=s.tick) z (hJ.top he d) ho C hi m.arr
    ·rw[qzc d,l];simp only[];rw[sj hf]
   rw[L];refine ih _ (step_ok D m g G hc) ?_;rw[<-BQ D A];refine Gc (λq vars e=>?_) (λy j=>?_) (λy i2 N j _ hj K H e=>?_) hJ
   ·rw[b1];have:eu f.code 0=true:=by simp[eu]
    rw[this];exact wG D vars
   ·rw[l]at j;cases j;exact ho.op.2
   ·rw[l]at j;cases j;have d:=e;rw[d,hf]at r;cases r;obtain⟨t,E⟩:=w s.top.i x v;rw[qja]at t E;cases h:eu f.code i2 with|true=>rw[b2 i2 h (qqy _)];exact wG D N|false=>
     rcases NF v K with c|⟨c,_⟩;·rw[c]at h;cases h
     ·rw[c]at h⊢;rw[E h];have I:=I9 (arr:=p.arrays) z (hj d) hr hi H;exact(hj d).does (InR.shorter (hj d) hr) I
 refine key n s m ⟨λ_ e=>?_,by rw[h0];exact trivial⟩;rw[h1,b1];have:eu f.code 0=true:=by simp[eu]
 rw[this];exact wG D _
end
