/- Joint text: EwG, EwH, EwI, EwJ, EwK, Shelf, EwL, EwM, EwP. By an AI agent. -/
import Derived.Test.YtgdibfnpkcdiiaaGreatDoorSzy
import Derived.Test.YtgdibfnpkcdiiaaGreatDoorS12
import Derived.Recover
import Derived.Lib.Bytealg
import Derived.Lib.Join
import Derived.Shelf.Strings.Builder1
import Derived.Shelf.Strings.Builder2
import Derived.Shelf.Strings.OnBuilder
import Derived.Shelf.Small.Strs
import Derived.Shelf.Strings.BuilderF
import Derived.Shelf.Strings.BuilderK
import Derived.Shelf.Utf8.RuneCount
import Derived.Shelf.Strings.Builder2Cap
import Derived.Shelf.Strconv.Itoa0
import Derived.Shelf.Strconv.Itoa1
import Derived.Shelf.LaysM
import Derived.Shelf.Strconv.Itoa2
import Derived.Shelf.Strconv.Itoa3
import Derived.Shelf.Strconv.Itoa4
import Derived.Shelf.Strconv.Clone
import Derived.Shelf.Strconv.SyntaxError
import Derived.Shelf.LaysC
import Derived.Shelf.Strconv.ToError
import Derived.Shelf.Strconv.Lower
import Derived.Shelf.Strconv.ParseUint10
import Derived.Shelf.Strconv.ParseUint10Empty
import Derived.Shelf.Strconv.ParseUint10Any
import Derived.Shelf.Strconv.RangeError
import Derived.Shelf.Strconv.ToErrorRange
import Derived.Shelf.Strconv.ParseUintEmpty
import Derived.Shelf.Strconv.ParseUint10b64
import Derived.Shelf.Strconv.ParseUint10b32
import Derived.Shelf.Strconv.ParseUint10b16
import Derived.Shelf.Strconv.ParseUint10b8
import Derived.Shelf.Strconv.ParseUint10At
import Derived.Shelf.Strings.Search1
import Derived.Shelf.Strings.Search2
import Derived.Shelf.Strings.Search3
import Derived.Shelf.Strings.Count
import Derived.Shelf.Strings.Shaped
import Derived.Shelf.Strings.Prefix
import Derived.Shelf.Strings.Split
import Derived.Shelf.Strings.SplitShaped
import Derived.Shelf.Unicode.Decode
import Derived.Shelf.Strings.RuneCount
import Derived.Shelf.Strings.Explode
import Derived.Shelf.Bits.Mul64
import Derived.Shelf.Unicode.DecodeSlow
import Derived.Shelf.Unicode.DecodeAny
import Derived.Shelf.Strings.BuilderCap
import Derived.Shelf.Slices.Turned
import Derived.Shelf.Slices.Equal
import Derived.Ground.Names2Prog
import Derived.Shelf.Slices.Clone
import Derived.Shelf.Slices.Empties2
import Derived.Ground.SlgnProg
import Derived.Shelf.SlicesG.Equal
import Derived.Shelf.SlicesG.Clone
import Derived.Shelf.SlicesE.Clone
set_option linter.all false
set_option maxRecDepth 100000
set_option maxHeartbeats 64000000
namespace Go.Proofs.YtgdibfnpkcdiiaaGreatDoor
namespace Ev
def Af:Nat->Exit|0=>.normal|1=>.ret|n+2=>.exit n
section
variable {P:Program}{K:Kon}{X:Nat->Option bY}{call:Nat->St->RS}{n:Nat}
def After.trans{g:Gh}{st:St}{w:World}{a:St}{w1:World}{c:St}{b:Act}{w':World}{g1:Gh}(h1:Fr g w g1 w1)(h2:Ext st.R st.nR a.R a.nR)(k:After K n g1 a w1 c b w'):After K n g st w c b w':=by obtain⟨g',d,e,f,h,i⟩:=k;exact⟨g',d,e,h1.trans f,h2.trans h,i⟩
def ZU(P:Program)(K:Kon)(X:Nat->Option bY)(call:Nat->St->RS)(n m:Nat):Prop:= ∀(c:Code)(g:Gh)(st:St)(w:World)(a:Act)(x:Nat)(d:St)(Q:Exit->Act->World->Prop),okX P K X n c=true->K.In g->HR g st w->FR g st a n->iM call m (gz P K X n c) st=.ok x d->(∀w' b,After K n g st w d b w'->Q (Af x) b w')->c.wp P Q a w
def Uo(P:Program)(K:Kon)(X:Nat->Option bY)(call:Nat->St->RS)(n m:Nat):Prop:= ∀(c:Code)(g:Gh)(st:St)(w:World)(a:Act)(x:Nat)(d:St)(Q:Exit->Act->World->Prop),okX P K X n c=true->K.In g->HR g st w->FR g st a n->iM call m (.loop (gz P K X n c)) st=.ok x d->(∀w' b,After K n g st w d b w'->Q (Af x) b w')->Code.rounds P c Q m a w
def CR{x:Nat}(h:x≠0)(N:Act->World->Prop)(Q:Exit->Act->World->Prop)(a:Act)(w:World):Exit.then N Q (Af x) a w=Q (Af x) a w:=by match x,h with|1,_=>rfl|k+2,_=>rfl
def Nh{l:List Stp}{st:St}{x:Nat}{a:St}(e:Fx call l st=.ok x a):x=0/\∃y,fB call l st=.ok y a:=by unfold Fx at e;cases h:fB call l st with|no=>rw[h]at e;cases e|ok y s=>rw[h]at e;injection e with b c;subst c;exact⟨b.symm,y,rfl⟩
def Ky(P:Program)(K:Kon)(ops:Array Oper)(p:bY):lM P K ops p=.bad\/∃l,lM P K ops p=.reg l:=by
 unfold lM;split;·exact .inr ⟨_,rfl⟩
 ·exact .inl rfl
def Ni{P:Program}{K:Kon}{n:Nat}{ops:Array Oper}:Ay P K n ops=.bad\/∃p,zu P K n ops p=true/\Ay P K n ops=lM P K ops p:=by
 unfold Ay;dsimp only;split;·rename_i h;exact .inr ⟨_,h,rfl⟩
 ·exact .inl rfl
def J3{a b:Code}(h:okX P K X n (.seq a b)=true):okX P K X n a=true/\okX P K X n b=true:=by have h:(okX P K X n a&&okX P K X n b)=true:=h;simpa using h
def Hr{c:Operand}{a b:Code}(h:okX P K X n (.cond c a b)=true):okX P K X n a=true/\okX P K X n b=true:=by have h:(okX P K X n a&&okX P K X n b)=true:=h;simpa using h
def zw(hm:P.follows .mixedOrders=true)(hc:lu P K call):∀m,ZU P K X call n m/\Uo P K X call n m
 |0=>⟨(λ_ _ _ _ _ _ _ _ _ _ _ _ e _=>nomatch e),(λ_ _ _ _ _ _ _ _ _ _ _ _ e _=>nomatch e)⟩|m+1=>by
  obtain⟨A,R⟩:=zw hm hc m;have N:Uo P K X call n (m+1):=λc g st w a x j Q r hk s hf e f=>by change MF (iM call m) (gz P K X n c) st=.ok x j at e;unfold MF at e;rw[jzx];cases h1:iM call m (gz P K X n c) st with|no=>rw[h1]at e;cases e|ok t z=>rw[h1]at e;dsimp only at e;refine A c g st w a t z _ r hk s hf h1 λw1 o h2=>?_;cases h3:Nat.beq t 0 with|true=>rw[h3,aj]at e;have h3:=ah h3;subst h3;show Code.rounds P c Q m o w1;obtain⟨G,i,q,D,E,F⟩:=h2;exact R c G z w1 o x j Q r i q F e λw' C h=>f w' C (h.trans D E)|false=>rw[h3,ag]at e;injection e with u v;subst u;subst v;rw[CR (gM h3)];exact f w1 o h2
  refine⟨λc g st w a x j Q r hk s hf e f=>?_,N⟩;have L:After K n g st w st a w:=⟨g,hk,s,Fr.refl _ _,Ext.refl _ _,hf⟩;cases c with
  |skip=>change RS.ok 0 st=.ok x j at e;injection e with i q;subst i;subst q;exact wp_skip (f w a L)|region id ops d=>cases d with
   |true=>
    have M:∀p,zu P K n ops p=true->iM call (m+1) (lM P K ops p) st=.ok x j->(Code.region id ops true).wp P Q a w:=λp I e=>by
     rcases Ky P K ops p with B|⟨l,B⟩;·rw[B]at e;cases e
     ·rw[B]at e;change Fx call l st=.ok x j at e;obtain⟨J,y,i⟩:=Nh e;subst J;exact Td hm hc hk s hf I B i f
    change iM call (m+1) (match X id with|some p=>lM P K ops p|none=>Ay P K n ops) st=.ok x j at e;change(match X id with|some p=>zu P K n ops p|none=>true)=true at r;cases O:X id with|some p=>rw[O]at e r;exact M p r e|none=>
     rw[O]at e;dsimp only at e;rcases Ni (P:=P) (K:=K) (n:=n) (ops:=ops)with H|⟨p,I,H⟩;·rw[H]at e;cases e
     ·rw[H]at e;exact M p I e
   |false=>
    change iM call (m+1) (if Li n ops=true then(match Ca P K ops ops.toList with|some l=>.reg l|none=>.bad)else .bad) st=.ok x j at e;split at e
    ·rename_i hd;split at e;·rename_i l hl;change Fx call l st=.ok x j at e;obtain⟨J,y,i⟩:=Nh e;subst J;exact Tp hc hk s hf hd hl i f
     ·cases e
    ·cases e
  |seq c1 c2=>change RA (iM call m) (gz P K X n c1) (gz P K X n c2) st=.ok x j at e;unfold RA at e;refine wp_seq ?_;cases h1:iM call m (gz P K X n c1) st with|no=>rw[h1]at e;cases e|ok t z=>rw[h1]at e;dsimp only at e;refine A c1 g st w a t z _ (J3 r).1 hk s hf h1 λw1 o h2=>?_;cases h3:Nat.beq t 0 with|true=>rw[h3,aj]at e;have h3:=ah h3;subst h3;obtain⟨G,i,q,D,E,F⟩:=h2;exact A c2 G z w1 o x j Q (J3 r).2 i q F e λw' C h=>f w' C (h.trans D E)|false=>rw[h3,ag]at e;injection e with u v;subst u;subst v;rw[CR (gM h3)];exact f w1 o h2
  |cond c c1 c2=>
   change KM (iM call m) (cOp K c) (gz P K X n c1) (gz P K X n c2) st=.ok x j at e;unfold KM at e;have ht:=hf.opd hk c
   cases h1:Nat.beq (rd st.T (cOp K c)) 17 with|true=>
    rw[h1,aj]at e;have h1:=ah h1;obtain⟨b,i,q⟩:=(ht.aM oqo oqo oqo oqo).iC oqo;have:b=true:=by cases b with|true=>rfl|false=>rw[h1]at i;exact absurd i (by decide)
    subst this;exact wp_cond_true q (A c1 g st w a x j Q (Hr r).1 hk s hf e f)|false=>
    rw[h1,ag]at e;obtain⟨h2,e⟩:=ae e;have h2:=ah h2;obtain⟨b,i,q⟩:=(ht.aM oqo oqo oqo oqo).iC oqo;have:b=false:=by cases b with|false=>rfl|true=>rw[h2]at i;exact absurd i (by decide)
    subst this;exact wp_cond_false q (A c2 g st w a x j Q (Hr r).2 hk s hf e f)
  |block id c=>change Qn (iM call m) id (gz P K X n c) st=.ok x j at e;unfold Qn at e;refine wp_block ?_;cases h1:iM call m (gz P K X n c) st with|no=>rw[h1]at e;cases e|ok t z=>rw[h1]at e;dsimp only at e;refine A c g st w a t z _ r hk s hf h1 λw1 o h2=>?_;cases h3:Nat.beq t (Nat.add id 2)with|true=>rw[h3,aj]at e;have h3:=ah h3;injection e with u v;subst u;subst v;subst h3;show Exit.inBlock id Q (.exit id) o w1;simp only[Exit.inBlock,jzo];exact f w1 o h2|false=>rw[h3,ag]at e;have h3:=gM h3;injection e with u v;subst u;subst v;match t,h3,f with|0,_,f=>exact f w1 o h2|1,_,f=>exact f w1 o h2|k+2,h3,f=>show Exit.inBlock id Q (.exit k) o w1;simp only[Exit.inBlock];rw[qzc (λh=>h3 (by rw[h]))];exact f w1 o h2
  |loop c=>exact jxu (m+1) (N c g st w a x j Q r hk s hf e f)|exit id=>change RS.ok (Nat.add id 2) st=.ok x j at e;injection e with i q;subst i;subst q;exact wp_exit (f w a L)|ret=>change RS.ok 1 st=.ok x j at e;injection e with i q;subst i;subst q;exact wp_ret (f w a L)|_=>cases e
end
end Ev
namespace Ev
section
variable {P:Program}{K:Kon}{g:Gh}{st:St}{w:World}{n:Nat}
def lT(tmps:Array Value):ResultVar->Sem Value| .tmp t=>pure (tmps.getD t undef)| .cell a t=>do loadVar t (<-asAddr (tmps.getD a undef))
def Gp{t:TypeId}{x:Nat}{st':St}{tmps:Array Value}{c:Nat}(hk:K.In g)(h:HR g st w)(hs:∀t,TR g st.R st.nR (gt st.T t) (tmps.getD t undef)){f:St->RS}(e:f st=.ok x st')(hf:∀o:Oper,o.op=.load t (.tmp c)->OpV P K o f):∃g' w' v,((Instr.loadAt t (tmps.getD c undef)).run P w=.ok v w')/\Post g st w g' st' w' x v:=by
 let o:Oper:={(default:Oper)with op:=.load t (.tmp c)};obtain⟨g',w',v,h1,h2,_⟩:=hf o rfl g st {tmps:=tmps,defers:=[]} w x st' hk h (λy j=>by
  have:y=.tmp c:=by simpa [o,Op.operands]using j
  subst this;exact hs c) e;have i:(execOp ({tmps:=tmps,defers:=[]}:Act).eval o).run P w=((Instr.loadAt t (tmps.getD c undef)).run P w).andThen λv w=>.ok (.value v) w:=by show((do let v<-Instr.loadAt t (tmps.getD c undef);pure (Next.value v)):Sem Next).run P w=_;rw[qjm];rfl
 rw[i]at h1;cases b:(Instr.loadAt t (tmps.getD c undef)).run P w with|halt z w1=>rw[b]at h1;rcases h1 with h1|⟨h1,_⟩<;>cases h1|ok u w1=>
  rw[b]at h1;rcases h1 with h1|⟨h1,_⟩;·change Result.ok (Next.value u) w1=_ at h1;injection h1 with a d;injection a with a;subst a;subst d;exact⟨g',w1,u,rfl,h2⟩
  ·cases h1
def vG{t:TypeId}{ad v:Value}{w w':World}(h:(Instr.loadAt t ad).run P w=.ok v w'):((do loadVar t (<-asAddr ad)):Sem Value).run P w=.ok v w':=by unfold Instr.loadAt Instr.sureAddr at h;unfold asAddr;cases ad with
 |pointer q=>cases q with|some q=>exact h|none=>simp at h
 |_=>simp at h
def Ab{ad:Addr}{v:Value}{w w':World}(h:(load ad).run P w=.ok v w'):w'=w:=by
 rw[run_load]at h;split at h;·injection h with _ h;exact h.symm
 ·split at h;·injection h with _ h;exact h.symm
  ·cases h
def sJ{ad:Addr}:∀(n i:Nat)(a:Array Value){vs:Array Value}{w w':World},(loadCellsFrom ad i n a).run P w=.ok vs w'->w'=w|0,i,a,vs,w,w',h=>by change Result.ok a w=.ok vs w' at h;injection h with _ h;exact h.symm|n+1,i,a,vs,w,w',h=>by unfold loadCellsFrom at h;rw[qjm]at h;cases b:(load (ad.add i)).run P w with|halt _ _=>rw[b]at h;cases h|ok u w1=>rw[b]at h;have:=Ab b;subst this;exact sJ n (i+1) _ h
def H9{tmps:Array Value}{r:ResultVar}{v:Value}{w w':World}{l:List ResultVar}{e:List RV}(hc:iU P K (r::l)=some e)(h:(lT tmps r).run P w=.ok v w'):w'=w:=by cases r with|tmp t=>change Result.ok (tmps.getD t undef) w=.ok v w' at h;injection h with _ h;exact h.symm|cell a t=>
  simp only[iU]at hc;split at hc;·rename_i d i k hd hi j;unfold lT at h;rw[qjm]at h;cases b:(asAddr (tmps.getD a undef)).run P w with|halt _ _=>rw[b]at h;cases h|ok ad w1=>
    rw[b]at h;have c:w1=w:=by
     unfold asAddr at b;split at b;·change Result.ok _ w=.ok ad w1 at b;injection b with _ b;exact b.symm
     ·first|cases b|simp[runtimePanic]at b
     ·first|cases b|simp[stuck]at b
    subst c;change(loadVar t ad).run P w1=.ok v w' at h;unfold loadVar at h;rw[qjm,rD hd]at h;cases ha:gU d with
    |true=>rw[ha]at h;simp only[qjl,jzo,qjm,dG hi]at h;cases hz:(loadCells ad i.size).run P w1 with|halt _ _=>rw[hz]at h;cases h|ok u f=>rw[hz]at h;have:=sJ _ _ _ hz;subst this;change Result.ok (Value.agg u) f=.ok v w' at h;injection h with _ h;exact h.symm
    |false=>rw[ha]at h;exact Ab h
  ·cases hc
def J2{tmps:Array Value}(hk:K.In g)(b:HR g st w)(hs:∀t,TR g st.R st.nR (gt st.T t) (tmps.getD t undef)){r:ResultVar}{m:RV}{l:List ResultVar}{k:List RV}(hc:iU P K (r::l)=some (m::k)){x:Nat}{st':St}(e:Gj m st=.ok x st'):iU P K l=some k/\∃g' w' v,(lT tmps r).run P w=.ok v w'/\Post g st w g' st' w' x v:=by cases r with
 |tmp t=>simp only[iU]at hc;cases h:iU P K l with|none=>rw[h]at hc;cases hc|some y=>rw[h]at hc;simp only[jqf,qzk,jjb]at hc;obtain⟨rfl,rfl⟩:=hc;change RS.ok (gt st.T t) st=.ok x st' at e;injection e with p q;subst p;subst q;exact⟨rfl,g,w,tmps.getD t undef,rfl,.same b (hs t)⟩
 |cell a t=>
  simp only[iU]at hc;split at hc
  ·rename_i d i u hd hi j;split at hc;·rename_i ha;simp only[qzk,jjb]at hc;obtain⟨rfl,rfl⟩:=hc;obtain⟨g',w',v,h1,h2⟩:=Gp (P:=P) (K:=K) (c:=a) (t:=t) (f:=Gu (.s a)) hk b hs e λo ho=>JX ho hd ha;exact⟨j,g',w',v,vG h1,h2⟩
   ·rename_i ha;split at hc;·rename_i hn;simp only[qzk,jjb]at hc;obtain⟨rfl,rfl⟩:=hc;obtain⟨g',w',v,h1,h2⟩:=Gp (P:=P) (K:=K) (c:=a) (t:=t) (f:=Ac i.size (.s a)) hk b hs e λo ho=>EP ho hd (Lx ha) hi hn;exact⟨j,g',w',v,vG h1,h2⟩
    ·cases hc
  ·cases hc
end
end Ev
namespace Ev
section
variable {P:Program}{K:Kon}{tmps:Array Value}
def Hl{α:Type}(l:List α)(d:α){i:Nat}(h:i<l.length):l.reverse.getD i d=l.getD (l.length-1-i) d:=by rw[qqm,qqm,List.getElem?_reverse h]
def Post.trans{g:Gh}{st:St}{w:World}{g1:Gh}{a:St}{w1:World}{d:Nat}{v1:Value}{g2:Gh}{b:St}{c:World}{x:Nat}{v:Value}(h:Post g st w g1 a w1 d v1)(k:Post g1 a w1 g2 b c x v):Post g st w g2 b c x v:=⟨k.hr,h.fr.trans k.fr,h.ext.trans k.ext,k.tr,k.T.trans h.T,k.D.trans h.D⟩
def qP:∀(l:List ResultVar)(b:List RV),iU P K l=some b->b.length=l.length
 |[],b,h=>by injection h with h;subst h;rfl| .tmp t::l,b,h=>by simp only[iU]at h;cases c:iU P K l with|none=>rw[c]at h;cases h|some r=>rw[c]at h;simp only[jqf,qzk]at h;subst h;rw[qzv,qzv,qP l r c]
 | .cell a t::l,b,h=>by
  simp only[iU]at h;split at h
  ·rename_i d i r h1 h2 h3;have:=qP l r h3;split at h;·injection h with h;subst h;simp[this]
   ·split at h;·injection h with h;subst h;simp[this]
    ·cases h
  ·cases h
def JD:∀(l:List ResultVar)(f:List RV)(g:Gh)(st:St)(w:World)(c:List Nat)(av:List Value)(x:Nat)(st':St),K.In g->HR g st w->(∀t,TR g st.R st.nR (gt st.T t) (tmps.getD t undef))->iU P K l=some f->av.length=c.length->(∀i,i<c.length->TR g st.R st.nR (c.getD i 0) (av.getD i undef))->QD f st c=.ok x st'-> ∃g' w' vs,(l.mapM (lT tmps)).run P w=.ok vs w'/\vs.length=l.length/\Post g st w g' st' w' x (.tuple (av.reverse++vs).toArray)
 |[],f,g,st,w,c,av,x,st',hk,d,hs,hc,hl,hv,e=>by
  injection hc with hc;subst hc;change sel (Nat.blt st.nR 4294967296) (sel (Nat.blt c.length 16777216) (fc (ad st.R st.nR (dZ c.reverse)) λR=>RS.ok (fJ st.nR c.length) {st with R:=R,nR:=Nat.add st.nR c.length}) RS.no) RS.no=RS.ok x st' at e;obtain⟨h1,e⟩:=ae e;obtain⟨h2,e⟩:=ae e;rw[bX]at e;injection e with q m;have h1:=aT h1;have h2:=aT h2;simp only[nA]at m;have p:∀y∈c.reverse,y<2^128:=λy B=>by obtain⟨i,hi,he⟩:=List.getElem_of_mem (List.mem_reverse.1 B);have:=(hv i hi).lt;rw[qqm,qqh hi,qzm,he]at this;exact this
  have z:dZ c.reverse<2^(128*c.length):=by have:=mF c.reverse p;rwa[List.length_reverse]at this
  have o:=Ext.ad c.length (dZ c.reverse) d.Rlt;subst m;refine⟨g,w,[],by simp,rfl,⟨d.frame _ _ (iJ d.Rlt z),Fr.refl _ _,o,?_,rfl,rfl⟩⟩;rw[<-q];refine .tup _ _ _ h2 h1 (qqf _) (by simp[hl]) λi hi=>?_;rw[dK _ _ d.Rlt,qzc oqo,show st.nR+i-st.nR=i by omega,gQ _ _ p,Hl _ _ hi];have hz:(av.reverse++[]).toArray.getD i undef=av.getD (c.length-1-i) undef:=by rw[jxd,qqg,jxc,<-qqm,Hl _ _ oqo,hl]
  rw[hz];exact(hv _ oqo).mono (Gh.le.refl g) o|r::l,f,g,st,w,c,av,x,st',hk,d,hs,hc,hl,hv,e=>by
  have A:∃j h,f=j::h:=by have:=qP _ _ hc;cases f with|nil=>simp at this|cons a b=>exact⟨a,b,rfl⟩
  obtain⟨j,h,rfl⟩:=A;change RS.rec .no (λw st=>fc w λw=>QD h st (w::c)) (Gj j st)=RS.ok x st' at e;cases k:Gj j st with|no=>rw[k]at e;cases e|ok D C=>rw[k]at e;dsimp only at e;rw[bX]at e;obtain⟨u,s,w1,v,h1,h2⟩:=J2 hk d hs hc k;obtain⟨g',w',vs,k1,k2,k3⟩:=JD l h s C w1 (D::c) (v::av) x st' (hk.le h2.fr.le) h2.hr (λt=>by rw[h2.T];exact(hs t).mono h2.fr.le h2.ext) u (by simp[hl]) (λi hi=>by cases i with|zero=>exact h2.tr|succ i=>exact(hv i (by simpa using hi)).mono h2.fr.le h2.ext) e;refine⟨g',w',v::vs,by simp[List.mapM_cons,h1,k1],by simp[k2],?_⟩;have:=h2.trans k3;simpa using this
def Bl:∀(l:List ResultVar)(e:List RV){w w':World}{vs:List Value},iU P K l=some e->(l.mapM (lT tmps)).run P w=.ok vs w'->w'=w|[],e,w,w',vs,_,h=>by simp at h;exact h.2.symm|r::l,e,w,w',vs,hc,h=>by rw[List.mapM_cons,qjm]at h;cases d:(lT tmps r).run P w with|halt _ _=>rw[d]at h;cases h|ok u w1=>rw[d]at h;have:=H9 hc d;subst this;rw[qjl,qjm]at h;cases hz:(l.mapM (lT tmps)).run P w1 with|halt _ _=>rw[hz]at h;cases h|ok us f=>
    rw[hz]at h;have c:∃b,iU P K l=some b:=by cases hl:iU P K l with|some b=>exact⟨b,rfl⟩|none=>cases r with|tmp t=>simp[iU,hl]at hc|cell a t=>
       simp only[iU,hl]at hc;split at hc;·rename_i h3;cases h3
       ·cases hc
    obtain⟨b,c⟩:=c;have:=Bl l b c hz;subst this;change Result.ok (u::us) f=.ok vs w' at h;injection h with _ h;exact h.symm
def vB{fn:Func}{b:List RV}{w w':World}{v:Value}(hc:iU P K fn.results.toList=some b)(h:(results fn tmps).run P w=.ok v w'):w'=w:=by have a:results fn tmps=(do let vs<-fn.results.mapM (lT tmps)pure (if h:vs.size=1 then vs[0]else .tuple vs)):=rfl;rw[a,Array.mapM_eq_mapM_toList,qjm,Sem.run_map]at h;cases hz:(fn.results.toList.mapM (lT tmps)).run P w with|halt _ _=>rw[hz]at h;cases h|ok us c=>rw[hz]at h;have:=Bl _ _ hc hz;subst this;simp at h;exact h.2.symm
def MR{fn:Func}{d:List RV}{g:Gh}{st:St}{w:World}{x:Nat}{st':St}(hk:K.In g)(j:HR g st w)(hs:∀t,TR g st.R st.nR (gt st.T t) (tmps.getD t undef))(hc:iU P K fn.results.toList=some d)(e:res d st=.ok x st'): ∃g' w' v,(results fn tmps).run P w=.ok v w'/\Post g st w g' st' w' x v:=by have u:results fn tmps=(do let vs<-fn.results.mapM (lT tmps)pure (if h:vs.size=1 then vs[0]else .tuple vs)):=rfl;rw[u,Array.mapM_eq_mapM_toList];generalize fn.results.toList=l at*;match l,hc with
 |[],hc=>injection hc with hc;subst hc;change RS.ok 14 st=.ok x st' at e;injection e with p s;subst p;subst s;exact⟨g,w,undef,by simp[undef],.same j .und⟩|[r],hc=>
  have k:∃f,d=[f]:=by have:=qP _ _ hc;match d,this with|[a],_=>exact⟨a,rfl⟩
  obtain⟨f,rfl⟩:=k;obtain⟨_,g',w',v,h1,h2⟩:=J2 hk j hs hc e;exact⟨g',w',v,by simp[h1],h2⟩|r::q::l,hc=>
  have k:∃f m o,d=f::m::o:=by have:=qP _ _ hc;match d,this with|a::b::c,_=>exact⟨a,b,c,rfl⟩
  obtain⟨f,m,o,rfl⟩:=k;obtain⟨g',w',vs,k1,k2,k3⟩:=JD (r::q::l) _ g st w [] [] x st' hk j hs hc rfl (λi hi=>by simp at hi) e;refine⟨g',w',.tuple vs.toArray,?_,by simpa using k3⟩;have:¬vs.toArray.size=1:=by simp at k2⊢;omega
  simp only[qjm,Sem.run_map,k1];simp[k2]
end
end Ev
namespace Ev
def AQ(P:Program)(K:Kon)(f:Nat)(h:St->RS):Prop:= ∀(g:Gh)(st:St)(w:World)(args:Array Value)(x:Nat)(st':St),K.In g->HR g st w->st.D=[(args.size,[])]->(∀i,TR g st.R st.nR (gt st.T i) (args.getD i undef))->(∀i,args.size<=i->gt st.T i=0)->h st=.ok x st'->oz P f args w λv w'=>∃g',AZ g st w g' st' w' x v
def DkV(P:Program)(dk:Nat->Bool):Prop:= ∀(g:Gh)(R nR:Nat)(q:Nat×List Nat)(d:Deferred)(w:World),Gn g R nR q d->dk q.1=true->q.2=[]-> ∃fv cap f args,d.target=.fn fv cap/\(invoke d.target d.args).run P w=.ok (.enter f args) w/\CallsD P f args .returning w λe a w'=>∃v,e=.returned v/\a=.returning/\ma w w'
section
variable {P:Program}{K:Kon}{X:Nat->Nat->Option bY}{hk:Nat->Option (St->RS)}{dk:Nat->Bool}{fuel:Nat}
def wI(hd:DkV P dk){call:Nat->St->RS}(hc:Ae (Ij P) K call){fn:Func}{tmps:Array Value}{R:Ending->World->Prop}{x:Nat}{b:St}:∀(l:List (Nat×List Nat))(ds:List Deferred)(g:Gh)(st:St)(w:World),K.In g->HR g st w->DR g st.R st.nR l ds->yP call dk l st=.ok x b->(∀g' w',K.In g'->HR g' b w'->Fr g w g' w'->Ext st.R st.nR b.R b.nR->b.T=st.T->∃v,(results fn tmps).run P w'=.ok v w'/\R (.returned v) w')->Leaves P fn tmps R ds .returning w|[],ds,g,st,w,hk,j,c,e,i=>by cases c;change RS.ok 0 st=.ok x b at e;injection e with _ e;subst e;exact i g w hk j (Fr.refl _ _) (Ext.refl _ _) rfl|(h,ws)::l,ds,g,st,w,hk,j,c,e,i=>by cases c with| @cons _ d _ ds' s c=>have e:sel (dk h) (sel (Nat.beq ws.length 0) (yP call dk l st) RS.no) (RS.rec .no (λ_ st=>yP call dk l st) (dyn call h ws st))=RS.ok x b:=e;cases p:dk h with|true=>rw[p,aj]at e;obtain⟨h0,e⟩:=ae e;obtain⟨fv,cap,f,args,h1,h2,h3⟩:=hd g st.R st.nR (h,ws) d w s p (jja.1 (ah h0));refine⟨by simp,fv,cap,f,args,h1,h2,h3.mono λe I w'⟨v,k,m,y⟩=>?_⟩;subst k;subst m;show Leaves P fn tmps R ds' .returning w';obtain⟨t,u⟩:=y g st j;exact wI hd hc l ds' g st w' hk t c e λg' r k1 k2 k3 k4 k5=>i g' r k1 k2 (u.trans k3) k4 k5|false=>rw[p,ag]at e;cases q:dyn call h ws st with|no=>rw[q]at e;cases e|ok M H=>
     rw[q]at e;obtain⟨fv,first,cap,vs,h1,h2,h3,C,D,E⟩:=s;obtain⟨f,L,J,z,F,G⟩:=JA (Jb P) hc hk j h1 C D E q;injection z with A o B;subst A;subst o;subst B;refine⟨by simp,.func f,cap,f,first++vs++cap,by rw[h3],?_,G.mono λe I w'⟨v,k,m,g',a⟩=>?_⟩;·rw[h3];exact F
     ·subst k;subst m;show Leaves P fn tmps R ds' .returning w';exact wI hd hc l ds' g' H w' (hk.le a.fr.le) a.hr (c.mono a.fr.le a.ext) e λo r k1 k2 k3 k4 k5=>i o r k1 k2 (a.fr.trans k3) (a.ext.trans k4) (k5.trans a.T)
def O3{g:Gh}{st:St}{args:Array Value}{m:Nat}(hs:∀i,TR g st.R st.nR (gt st.T i) (args.getD i undef))(h0:∀i,args.size<=i->gt st.T i=0):FR g {st with D:=[]} {tmps:=args++Array.replicate (m-args.size) undef,defers:=[]} m:=by
 refine⟨by simp;omega,λt=>?_,.nil⟩;by_cases ht:t<args.size
 ·have:({tmps:=args++Array.replicate (m-args.size) undef,defers:=[]}:Act).eval (.tmp t)=args.getD t undef:=by simp[Act.eval,qqg,jxk,ht]
  rw[this];exact hs t
 ·rw[h0 t oqo];exact .unk _
def Yn{g:Gh}{R nR:Nat}{ds:List Deferred}(h:DR g R nR [] ds):ds=[]:=by cases h;rfl
def Dr{f:Nat}{F:Fun}(h:zM P K X f=some F):∃fn c a,P.funcs[f]? =some fn/\fn.body=some c/\iU P K fn.results.toList=some a/\fn.name≠ "runtime.NumGoroutine"/\F=⟨gz P K (X f) fn.ntmps c,a⟩:=by
 unfold zM at h;split at h
 ·rename_i fn d;split at h
  ·rename_i c a b i;split at h;·cases h
   ·rename_i e;injection h with h;exact⟨fn,c,a,d,b,i,by simpa using e,h.symm⟩
  ·cases h
 ·cases h
def RY(H:∀f fn c,P.funcs[f]? =some fn->fn.body=some c->okX P K (X f) fn.ntmps c=true)(hm:P.follows .mixedOrders=true){call:Nat->St->RS}(ih:lu P K call):Ae (Ij P) K (xZ P K X call fuel):=λf g st w args x st' L o Q hs h0 e=>by unfold xZ at e;cases hF:zM P K X f with|none=>rw[hF]at e;cases e|some F=>rw[hF]at e;obtain⟨fn,c,O,h,d,p,M,rfl⟩:=Dr hF;change RS.rec .no (λx st=>sel (Nat.ble x 1) (List.rec (res O st) (λ_ _ _=>.no) st.D) .no) (iM call fuel (gz P K (X f) fn.ntmps c) {st with D:=[]})=RS.ok x st' at e;have J:HR g {st with D:=[]} w:=o.frame _ _ o.Rlt;cases i:iM call fuel (gz P K (X f) fn.ntmps c) {st with D:=[]}with|no=>rw[i]at e;cases e|ok y r=>rw[i]at e;dsimp only at e;obtain⟨h1,e⟩:=ae e;have h1:=fF h1;refine⟨by simp[callFunc,h,M,d],callsD_of_wpS h d λb cs hu=>wpS_of_wp ?_⟩;refine(zw (n:=fn.ntmps) hm ih fuel).1 c g {st with D:=[]} w _ y r _ (H f fn c h d) L J (O3 hs h0) i λw' a G=>?_;obtain⟨g',z,A,B,C,j⟩:=G;have m:=j.defers;cases k:r.D with|cons q l=>rw[k]at e;cases e|nil=>
    rw[k]at e m;have N:a.defers=[]:=Yn m;obtain⟨E,w3,v,u1,u2⟩:=MR (tmps:=a.tmps) (K:=K) (fn:=fn) z A (λt=>j.slot t) p e;have:=vB p u1;subst this;have I:b::cs={b with mode:=FrameMode.returning}::cs:=by rw[<-hu]
    have fin:a.defers=[]/\∃s,b::cs={b with mode:=s}::cs/\∃v,(results fn a.tmps).run P w3=.ok v w3/\∃u,Ending.returned v=.returned u/\s=.returning/\∃g',AZ g st w g' st' w3 x u:=⟨N,_,I,v,u1,v,rfl,rfl,E,⟨u2.hr,B.trans u2.fr,C.trans u2.ext,u2.tr⟩⟩;match y,h1 with|0,_=>exact fin|1,_=>exact fin
def yR(d:∀f fn c,P.funcs[f]? =some fn->fn.body=some c->okX P K (X f) fn.ntmps c=true)(hm:P.follows .mixedOrders=true)(q:∀f h,hk f=some h->AQ P K f h)(hd:DkV P dk):∀n,lu P K (kC P K X hk dk fuel n)
 |0=>λ_ _ _ _ _ _ _ _ _ _ _ _ e=>nomatch e|n+1=>λf g st w args x st' r k E hs h0 e=>by
  have ih:=yR d hm q hd n;cases hf:hk f with|some h=>
   change Option.rec _ (λh=>h st) (hk f)=RS.ok x st' at e
   rw[hf]at e;exact q f h hf g st w args x st' r k E hs h0 e|none=>change Option.rec (Option.rec .no (λF=>Fun.rec (λcode m=>RS.rec .no (λx st=>sel (Nat.ble x 1) (RS.rec .no (λ_ st=>res m st) (yP (xZ P K X (kC P K X hk dk fuel n) fuel) dk st.D (setD [] st))) .no)
    (noD (iM (kC P K X hk dk fuel n) fuel code) st)) F) (zM P K X f)) (λh=>h st) (hk f)=RS.ok x st' at e;rw[hf]at e;cases hF:zM P K X f with|none=>rw[hF]at e;cases e|some F=>
    rw[hF]at e;obtain⟨fn,c,m,j,i,s,H,rfl⟩:=Dr hF;change RS.rec .no (λx st=>sel (Nat.ble x 1) (RS.rec .no (λ_ st=>res m st) (yP (xZ P K X (kC P K X hk dk fuel n) fuel) dk st.D (setD [] st))) .no)
     (iM (kC P K X hk dk fuel n) fuel (gz P K (X f) fn.ntmps c) {st with D:=[]})=RS.ok x st' at e;have G:HR g {st with D:=[]} w:=k.frame _ _ k.Rlt;cases l:iM (kC P K X hk dk fuel n) fuel (gz P K (X f) fn.ntmps c) {st with D:=[]}with|no=>rw[l]at e;cases e|ok u a=>rw[l]at e;dsimp only at e;obtain⟨h1,e⟩:=ae e;have h1:=fF h1;cases hr:yP (xZ P K X (kC P K X hk dk fuel n) fuel) dk a.D (setD [] a)with|no=>rw[hr]at e;cases e|ok N L=>
      rw[hr]at e;dsimp only at e;refine .inl ⟨by simp[callFunc,j,H,i],calls_of_wp_defers j i ?_⟩;refine(zw (n:=fn.ntmps) hm ih fuel).1 c g {st with D:=[]} w _ u a _ (d f fn c j i) r G (O3 hs h0) l λw' b C=>?_;obtain⟨g',y,o,z,A,p⟩:=C;have I:HR g' {a with D:=[]} w':=o.frame _ _ o.Rlt;have hl:Leaves P fn b.tmps (λe w'=>∃v,e=.returned v/\∃g',AZ g st w g' st' w' x v) b.defers .returning w':=by refine wI (K:=K) hd (RY (fuel:=fuel) d hm ih) a.D b.defers g' {a with D:=[]} w' y I p.defers hr λJ M k1 k2 k3 k4 k5=>?_;obtain⟨B,w3,v,u1,u2⟩:=MR (tmps:=b.tmps) (K:=K) (fn:=fn) k1 k2 (λt=>by rw[k5];exact(p.slot t).mono k3.le k4) s e;have:=vB s u1;subst this;exact⟨v,u1,v,rfl,B,⟨u2.hr,(z.trans k3).trans u2.fr,(A.trans k4).trans u2.ext,u2.tr⟩⟩
      match u,h1 with|0,_=>exact hl|1,_=>exact hl
end
end Ev
open Go.RowKit
namespace Ev
def G8{st st':St}{n x:Nat}{r:RS}(h:st.D=[(n,[])])(e:two st r=.ok x st'):n=2/\r=.ok x st':=by unfold two at e;rw[h]at e;obtain⟨h1,h2⟩:=ae e;exact⟨ah h1,h2⟩
section
variable {P:Program}{K:Kon}{g:Gh}{st:St}{w w':World}
def HR.below(h:HR g st w)(a:Below w.heap.size w w'):HR g st w'/\Fr g w g w':=by
 refine⟨⟨h.S,h.nS,h.Slt,h.Mlt,h.Rlt,h.top,h.jR,λs blk base z room hs=>?_,h.rows,λs blk hs=>?_,h.inj,h.pK⟩,⟨a.os,a.tape,a.output,a.size,Gh.le.refl _,λb d _=>a.block b d,λ_ _ h=>h⟩⟩;·obtain⟨c,e,fr,hc⟩:=h.cells s blk base z room hs;exact⟨c,e,fr,(a.block blk (qqs.1 hc.heap).1).trans hc.heap,hc.size,hc.room,hc.one,hc.vr,hc.thaw⟩
 ·obtain⟨o,ho,hm⟩:=h.maps s blk hs;exact⟨o,(a.block blk (qqs.1 ho).1).trans ho,hm⟩
def M6(S a n b:Nat)(d:b<256):∀k,k<=n->(ixb S a n b k=0/\Lib.indexByte (((List.range n).map λi=>UInt8.ofNat (aH S (a+i))).drop (n-k)) (UInt8.ofNat b)= -1)\/ ∃j:Nat,Lib.indexByte (((List.range n).map λi=>UInt8.ofNat (aH S (a+i))).drop (n-k)) (UInt8.ofNat b)=j/\ixb S a n b k=n-k+j+1/\j<k
 |0,_=>.inl ⟨rfl,by rw[jxs (by simp)];rfl⟩|k+1,hk=>by
  have e:ixb S a n b (k+1)=sel (Nat.beq (aH S (a+(n-k-1))) b) (n-k) (ixb S a n b k):=rfl;have hd:((List.range n).map λi=>UInt8.ofNat (aH S (a+i))).drop (n-(k+1))=UInt8.ofNat (aH S (a+(n-k-1)))::((List.range n).map λi=>UInt8.ofNat (aH S (a+i))).drop (n-k):=by
   rw[jqq (by simp;omega)];congr 1;·simp[show n-(k+1)=n-k-1 by omega]
   ·rw[show n-(k+1)+1=n-k by omega]
  rw[e,hd,Lib.indexByte];cases c:Nat.beq (aH S (a+(n-k-1))) b with|true=>rw[aj];have c:=ah c;rw[c];exact .inr ⟨0,by simp,by omega,by omega⟩|false=>
   rw[ag];have c:=gM c;have f:(UInt8.ofNat (aH S (a+(n-k-1)))==UInt8.ofNat b)=false:=by rw[qqe];exact λh=>c (yX (jK _ _) d h)
   rw[f];rcases M6 S a n b d k oqo with⟨h1,h2⟩|⟨j,h1,h2,h3⟩;·exact .inl ⟨h1,by rw[h2];rfl⟩
   ·refine .inr ⟨j+1,?_,by omega,by omega⟩;rw[h1];have:((j:Int)== -1)=false:=by rw[qqe];omega
    rw[this];simp
def PH(S a b:Nat)(d:b<256):∀k,Lib.countByte ((List.range k).map λi=>UInt8.ofNat (aH S (a+i))) (UInt8.ofNat b)=cnb S a b k/\cnb S a b k<=k|0=>⟨rfl,qqf _⟩|k+1=>by have e:cnb S a b (k+1)=sel (Nat.beq (aH S (a+k)) b) (cnb S a b k+1) (cnb S a b k):=rfl;obtain⟨f,i2⟩:=PH S a b d k;unfold Lib.countByte at f⊢;rw[List.range_succ,jzy,List.count_append,f,e];cases c:Nat.beq (aH S (a+k)) b with|true=>have c:=ah c;rw[aj];exact⟨by simp[c],by omega⟩|false=>
   have c:=gM c;have j:¬UInt8.ofNat (aH S (a+k))=UInt8.ofNat b:=λh=>c (yX (jK _ _) d h);rw[ag];refine⟨?_,by omega⟩;have:List.count (UInt8.ofNat b) (List.map (λi=>UInt8.ofNat (aH S (a+i))) [k])=0:=by rw[jqx,List.map_nil,List.count_cons,List.count_nil];simp[j]
   rw[this,qzz]
def Dw{x:Nat}{v:Value}(h:TR g st.R st.nR x v)(h1:x%256=66)(h2:ixN x<256):∃m:Int,v=.int .u8 m/\m.toNat.toUInt8=UInt8.ofNat (ixN x):=by
 have f:x≠0:=by intro e;subst e;simp at h1
 obtain⟨k,m,a,b,i,j⟩:=(h.aM oqo oqo oqo f).jB oqo;have hk:=jy k;have d:kc k=4:=by
  have:(ay k m)%256=2+16*kc k:=by unfold ay;omega
  rw[<-a,h1]at this;omega
 have c:k=.u8:=xu (d.trans rfl);subst c;refine⟨m,b,?_⟩;have hm:ixN x=m.toNat:=by show x/256-9223372036854775808=m.toNat;rw[a];unfold ay;have:(2+16*kc .u8+256*(m+9223372036854775808).toNat)/256=(m+9223372036854775808).toNat:=oqo;rw[this];omega
 rw[hm]
def Ba(b:Nat):ay .i64 (b:Int)=2361183241434822606898+256*b:=by show 2+16*3+256*((b:Int)+9223372036854775808).toNat=_;omega
def Wp:ay .i64 (-1)=2361183241434822606642:=by show 2+16*3+256*((-1:Int)+9223372036854775808).toNat=_;omega
def Um(c b:Nat):c+256*(b+1)-256=c+256*b:=oqo
def U5{c d:Nat}(h:c=d+256):c+256*0-256=d:=oqo
def zB{args:Array Value}{u v:Value}(ha:args.size=2)(h0:args.getD 0 undef=u)(h1:args.getD 1 undef=v):args=#[u,v]:=by
 subst h0;subst h1;apply Array.ext;·simpa using ha
 ·intro i hi a;have:i=0\/i=1:=by simp at a;omega
  rcases this with rfl|rfl<;>simp[qqg,hi]
def Zu{g:Gh}{x n:Nat}{i:Int}{k:Nat}(hn:n<16777216)(e:2361183241434822606898+256*k-256=x)(h:(k=0/\i= -1)\/∃j:Nat,i=j/\k=j+1/\j<n):VR g x (.int .i64 i):=by
 rcases h with⟨rfl,rfl⟩|⟨j,rfl,rfl,hj⟩;·rw[U5 (d:=2361183241434822606642) (by decide),<-Wp]at e;rw[<-e];exact .int .i64 (-1) (by decide) (by decide)
 ·rw[Um,<-Ba]at e;rw[<-e];exact .int .i64 j oqo oqo
def Vz{f:Nat}(hc:∀(s:ByteArray)(c:Int)(w:World),(callFunc f #[.string s,.int .u8 c]).run P w=.ok (.value (.int .i64 (Lib.indexByte s.data.toList c.toNat.toUInt8))) w):AQ P K f Xw:=λg st w args x st' hk d q hs _ e=>by
 obtain⟨ha,e⟩:=G8 q e;obtain⟨h1,e⟩:=ae e;obtain⟨h2,e⟩:=ae e;obtain⟨h3,e⟩:=ae e;have h3:=aT h3;obtain⟨t,l,a3,a4,a5⟩:=(hs 0).str (ah h1);obtain⟨m,b1,b2⟩:=Dw (hs 1) (ah h2) h3;have a:=M6 g.S (sa (gt st.T 0)) (ln (gt st.T 0)) (ixN (gt st.T 1)) h3 (ln (gt st.T 0)) (qqf _);rw[jzg,List.drop_zero]at a;rw[d.S]at e;rw[zB ha l b1];have hv:=hc (strOf g.S (sa (gt st.T 0)) (ln (gt st.T 0))) m w;rw[b2,bL]at hv;generalize ixb g.S (sa (gt st.T 0)) (ln (gt st.T 0)) (ixN (gt st.T 1)) (ln (gt st.T 0))=k at a e;generalize Lib.indexByte _ _=i at a hv;simp only[nA,nM,nS]at e;injection e with o p;subst p;refine .inr ⟨_,w,hv,g,d,Fr.refl _ _,Ext.refl _ _,.cell _ _ (Zu a3 o ?_)⟩;rcases a with⟨b,h⟩|⟨j,b,h,r⟩;·exact .inl ⟨b,h⟩
 ·exact .inr ⟨j,b,by omega,r⟩
def Vi{f:Nat}(hc:∀(s:ByteArray)(c:Int)(w:World),(callFunc f #[.string s,.int .u8 c]).run P w=.ok (.value (.int .i64 (Lib.countByte s.data.toList c.toNat.toUInt8))) w):AQ P K f XQ:=λg st w args x st' hk b i hs _ e=>by obtain⟨ha,e⟩:=G8 i e;obtain⟨h1,e⟩:=ae e;obtain⟨h2,e⟩:=ae e;obtain⟨h3,e⟩:=ae e;have h3:=aT h3;obtain⟨o,d,a3,a4,a5⟩:=(hs 0).str (ah h1);obtain⟨m,b1,b2⟩:=Dw (hs 1) (ah h2) h3;obtain⟨j,l⟩:=PH g.S (sa (gt st.T 0)) (ixN (gt st.T 1)) h3 (ln (gt st.T 0));rw[b.S]at e;rw[zB ha d b1];have hv:=hc (strOf g.S (sa (gt st.T 0)) (ln (gt st.T 0))) m w;rw[b2,bL,j]at hv;generalize cnb g.S (sa (gt st.T 0)) (ixN (gt st.T 1)) (ln (gt st.T 0))=k at l e hv;simp only[nA,nM]at e;injection e with a h;subst h;rw[<-Ba]at a;refine .inr ⟨_,w,hv,g,b,Fr.refl _ _,Ext.refl _ _,.cell _ _ ?_⟩;rw[<-a];exact .int .i64 k oqo oqo
def JF{A m c l:Nat}(a:A<2^(8*m)):(strOf (adS A m c) 0 (m+l)).data.toList=(strOf A 0 m).data.toList++(strOf c 0 l).data.toList:=by
 rw[bL,bL,bL,List.range_add,jzy,qzx];congr 1;·refine jqj λi hi=>?_;rw[jX _ _ a,qzb (by have:=qzg.1 hi;omega)]
 ·refine jqj λi hi=>?_;show UInt8.ofNat (aH (adS A m c) (0+(m+i)))=_;rw[jX _ _ a,qzc oqo,show 0+(m+i)-m=0+i by omega]
def BR(S a l:Nat):(strOf (chS S a l) 0 l).data.toList=(strOf S a l).data.toList:=by rw[bL,bL];refine jqj λi hi=>?_;rw[nu,qja,qzb (qzg.1 hi)]
def OY(x y:List UInt8)(r:List (List UInt8))(a:List UInt8):Lib.join (x::y::r) a=x++(a++Lib.join (y::r) a):=by rw[Lib.join_cons,Lib.join_cons];simp[Lib.joinTail]
def TL{α:Type}{b:Bool}{x:Option α}{y:α}(h:sel b x none=some y):b=true/\x=some y:=by cases b with|true=>exact⟨rfl,h⟩|false=>cases h
def jr(S M a n:Nat):List ByteArray:=(List.range n).map λj=>strOf S (sa (gt M (a+j))) (ln (gt M (a+j)))
def Uq(S M a d n:Nat):∀k,k<=n->∀l c,jn S M a d n k=some ⟨l,c⟩->c<2^(8*l)/\(∀j,n-k<=j->j<n->gt M (a+j)%16=3)/\(strOf c 0 l).data.toList=Lib.join (((jr S M a n).drop (n-k)).map λx=>x.data.toList) (strOf S (sa d) (ln d)).data.toList
 |0,_,l,c,e=>by have e:some (⟨0,0⟩:Src)=some ⟨l,c⟩:=e;injection e with e;injection e with f h;subst f;subst h;exact⟨by simp,λj h1 h2=>by omega,by rw[jxs (by simp[jr])];rfl⟩|k+1,hk,l,c,e=>by
  have b:(Option.rec none (λq=>Src.rec (λl c=>sel (Nat.beq (Nat.mod (gt M (a+(n-k-1))) 16) 3)
   (sel (Nat.beq k 0) (some ⟨ln (gt M (a+(n-k-1))),chS S (sa (gt M (a+(n-k-1)))) (ln (gt M (a+(n-k-1))))⟩)
    (some ⟨ln (gt M (a+(n-k-1)))+(ln d+l),adS (chS S (sa (gt M (a+(n-k-1)))) (ln (gt M (a+(n-k-1))))) (ln (gt M (a+(n-k-1)))) (adS (chS S (sa d) (ln d)) (ln d) c)⟩)) none) q) (jn S M a d n k):Option Src)=some ⟨l,c⟩:=e;have hd:(jr S M a n).drop (n-(k+1))=strOf S (sa (gt M (a+(n-k-1)))) (ln (gt M (a+(n-k-1))))::(jr S M a n).drop (n-k):=by
   rw[jqq (by simp[jr];omega)];congr 1;·simp[jr,show n-(k+1)=n-k-1 by omega]
   ·rw[show n-(k+1)+1=n-k by omega]
  rw[hd];clear e hd;generalize s:gt M (a+(n-k-1))=C at b⊢;cases hj:jn S M a d n k with|none=>rw[hj]at b;cases b|some q=>
   obtain⟨A,c0⟩:=q;rw[hj]at b;obtain⟨h1,b⟩:=TL b;obtain⟨u,i2,v⟩:=Uq S M a d n k oqo A c0 hj;have i:∀j,n-(k+1)<=j->j<n->gt M (a+j)%16=3:=λj B z=>by
    by_cases o:j=n-k-1;·rw[o,s];exact ah h1
    ·exact i2 j oqo z
   cases h2:Nat.beq k 0 with|true=>rw[h2,aj]at b;have h2:=ah h2;injection b with b;injection b with f h;subst f;subst h;refine⟨nG _ _ _,i,?_⟩;rw[BR,jxs (by simp[jr];omega),jqx,List.map_nil,Lib.join_one]|false=>
    rw[h2,ag]at b;have h2:=gM h2;injection b with b;injection b with f h;subst f;subst h;have m:=Bc (nG S (sa d) (ln d)) u;refine⟨Bc (nG _ _ _) m,i,?_⟩;rw[JF (nG _ _ _),JF (nG _ _ _),BR,BR,v];obtain⟨y,r,t⟩:∃y r,(jr S M a n).drop (n-k)=y::r:=by cases p:(jr S M a n).drop (n-k)with|nil=>have:=jqp List.length p;simp[jr]at this;omega|cons y r=>exact⟨y,r,rfl⟩
    rw[t,jqx,jqx,jqx,OY]
def Tm{f:Nat}(G:∀args w,(callFunc f args).run P w=.ok (.enter f args) w)(J:∀(a:Option Addr)(c:Nat)(h:ByteArray)(w:World),Calls P f #[.slice a 0 c,.string h] w λe w'=>e=.returned (.string ⟨#[]⟩)/\w'=w)(L:∀(m o c:Nat)(xs:List ByteArray)(h:ByteArray)(w:World)(_:∀(j:Nat)x,xs[j]? =some x->w.cell? ⟨m,o+j,none⟩=some (.string x))(_:m<w.heap.size)(_:xs.length<=140737488355328)(_:xs.length<=c)(_:(Lib.join (xs.map (·.data.toList)) h.data.toList).length<=140737488355328),Calls P f #[.slice (some ⟨m,o,none⟩) xs.length c,.string h] w λe w'=>e=.returned (.string ⟨(Lib.join (xs.map (·.data.toList)) h.data.toList).toArray⟩)/\Below w.heap.size w w'):AQ P K f Uv:=λg st w args x st' hk b D hs _ e=>by obtain⟨ha,e⟩:=G8 D e;obtain⟨h1,e⟩:=ae e;obtain⟨h2,e⟩:=ae e;obtain⟨h3,e⟩:=ae e;obtain⟨r,e⟩:=ae e;have r:=aT r;cases hj:jn st.S st.M (Nat.add (ps (gt st.T 0)) (so (gt st.T 0))) (gt st.T 1) (sl (gt st.T 0)) (sl (gt st.T 0))with|none=>rw[hj]at e;cases e|some q=>
  obtain⟨l,c⟩:=q;rw[hj]at e;obtain⟨s,e⟩:=ae e;have s:=aT s;rw[bX]at e;injection e with C p;rw[nA]at hj p;obtain⟨O,Q,k⟩:=Uq _ _ _ _ _ _ (qqf _) l c hj;rw[jzg,List.drop_zero]at k;obtain⟨b1,b2,W,Y,Z⟩:=(hs 1).str (ah h1);obtain⟨blk,base,room,cap,ad,c1,c2,c3,c4,c5,c6,c7,c8,c9,d⟩:=(hs 0).sli (ah h2);have h3:=ah h3;rw[h3,jzc]at c8;have z:strOf st.S (sa (gt st.T 1)) (ln (gt st.T 1))=strOf g.S (sa (gt st.T 1)) (ln (gt st.T 1)):=by rw[b.S]
  have E:=zB ha c2 b2;have fin:∀(v:ByteArray)(w':World),v.data.toList=(strOf c 0 l).data.toList->Below w.heap.size w w'->∃g',AZ g st w g' st' w' x (.string v):=λv w' hv F=>by
   obtain⟨U,V⟩:=b.below F;obtain⟨S,T⟩:=U.pool l c O;refine⟨_,by rw[<-p];exact S,V.trans T,by rw[<-p];exact Ext.refl _ _,?_⟩;rw[<-C];have N:v=strOf (adS st.S st.nS c) st.nS l:=by apply jjn;apply jxt;rw[hv,bL,bL];refine jqj λi hi=>?_;rw[jX _ _ b.Slt,qzc oqo,show st.nS+i-st.nS=0+i by omega]
   rw[N];exact .cell _ _ (.str st.nS l s (qqf _) r)
  rw[E];refine .inl ⟨G _ _,?_⟩;by_cases h0:sl (gt st.T 0)=0;·rw[h0];refine(J _ _ _ _).mono λe w'⟨k1,k2⟩=>⟨_,k1,fin _ _ ?_ (by rw[k2];exact qjk _ _)⟩;rw[k,h0];rfl
  ·have H:cap≠0:=by omega
   rcases d with d|⟨d,d0⟩;·exact absurd d H
   ·have y:(jr st.S st.M (ps (gt st.T 0)+so (gt st.T 0)) (sl (gt st.T 0))).length=sl (gt st.T 0):=by simp[jr]
    have I:∀(j:Nat)x,(jr st.S st.M (ps (gt st.T 0)+so (gt st.T 0)) (sl (gt st.T 0)))[j]? =some x->w.cell? ⟨blk,base+so (gt st.T 0)+j,none⟩=some (.string x):=λj x t=>by
     have u:j<sl (gt st.T 0):=by rw[<-y];exact(qqi.1 t).1
     obtain⟨v,A,B⟩:=b.load c7 (o:=so (gt st.T 0)+j) oqo;rw[<-jqu]at A B;have ht:=Q j oqo u;obtain⟨u1,u2,_⟩:=(TR.cell (R:=0) (nR:=0) _ _ B).str ht;rw[A,u2];have:x=strOf st.S (sa (gt st.M (ps (gt st.T 0)+so (gt st.T 0)+j))) (ln (gt st.M (ps (gt st.T 0)+so (gt st.T 0)+j))):=by simp only[jr,qqp,qqz u,jqf,qzk]at t;exact t.symm
     rw[this,b.S]
    have e0:=(@qqv _ _ (strOf c 0 l).data.toList id);have M:(Lib.join ((jr st.S st.M (ps (gt st.T 0)+so (gt st.T 0)) (sl (gt st.T 0))).map (·.data.toList)) (strOf g.S (sa (gt st.T 1)) (ln (gt st.T 1))).data.toList).length=l:=by rw[<-z,<-k,bL];simp
    have:=L blk (base+so (gt st.T 0)) cap (jr st.S st.M (ps (gt st.T 0)+so (gt st.T 0)) (sl (gt st.T 0))) (strOf g.S (sa (gt st.T 1)) (ln (gt st.T 1))) w I (Ak b (.inl ⟨_,_,_,_,c7⟩)) oqo oqo (by rw[M];omega);rw[y]at this;rw[d];refine this.mono λe w'⟨k1,k2⟩=>⟨_,k1,fin _ _ ?_ k2⟩;rw[k,z]
end
end Ev
end Go.Proofs.YtgdibfnpkcdiiaaGreatDoor
namespace Go.Proofs
open Go.Proofs.YtgdibfnpkcdiiaaGreatDoor
open Go.Shelf
def Tryz.yz:Go.Shelf.Ren:=⟨λ|156=>239|165=>277|166=>51|169=>55|240=>118|241=>297|276=>149|277=>307|n=>n,λ|31=>227|9=>9|3=>3|4=>4|0=>0|20=>20|72=>86|76=>89|70=>84|37=>74|75=>88|127=>167|164=>228|5=>5|80=>95|n=>n,λ|n=>n⟩
def Tryz.JQ:Go.Proofs.Lays.n156 Tryz.prog Tryz.yz:={
 mixed:=kqk
 f156:=Tryz.func239.trans (jqp some kqk)
 f165:=Tryz.func277.trans (jqp some kqk)
 f166:=Tryz.func51.trans (jqp some kqk)
 f169:=Tryz.func55.trans (jqp some kqk)
 f240:=Tryz.func118.trans (jqp some kqk)
 f241:=Tryz.func297.trans (jqp some kqk)
 f276:=Tryz.func149.trans (jqp some kqk)
 f277:=Tryz.func307.trans (jqp some kqk)
 t0:=Tryz.underlying0
 a0:=Tryz.isAgg0
 z0:=Tryz.sizeOf0
 v0:=Tryz.zeroValue0
 t3:=Tryz.underlying3
 a3:=Tryz.isAgg3
 z3:=Tryz.sizeOf3
 v3:=Tryz.zeroValue3
 t4:=Tryz.underlying4
 a4:=Tryz.isAgg4
 z4:=Tryz.sizeOf4
 v4:=Tryz.zeroValue4
 t9:=Tryz.underlying9
 a9:=Tryz.isAgg9
 z9:=Tryz.sizeOf9
 v9:=Tryz.zeroValue9
 t20:=Tryz.underlying20
 a20:=Tryz.isAgg20
 z20:=Tryz.sizeOf20
 v20:=Tryz.zeroValue20
 t31:=Tryz.underlying227
 a31:=Tryz.isAgg227
 z31:=Tryz.sizeOf227
 v31:=Tryz.zeroValue227
 t37:=Tryz.underlying74
 a37:=Tryz.isAgg74
 z37:=Tryz.sizeOf74
 v37:=Tryz.zeroValue74
 t70:=Tryz.underlying84
 a70:=Tryz.isAgg84
 z70:=Tryz.sizeOf84
 v70:=Tryz.zeroValue84
 t72:=Tryz.underlying86
 a72:=Tryz.isAgg86
 z72:=Tryz.sizeOf86
 v72:=Tryz.zeroValue86
 t75:=Tryz.underlying88
 a75:=Tryz.isAgg88
 z75:=Tryz.sizeOf88
 v75:=Tryz.zeroValue88
 t76:=Tryz.underlying89
 a76:=Tryz.isAgg89
 z76:=Tryz.sizeOf89
 v76:=Tryz.zeroValue89
 t127:=Tryz.underlying167
 a127:=Tryz.isAgg167
 z127:=Tryz.sizeOf167
 v127:=Tryz.zeroValue167
 t164:=Tryz.underlying228
 a164:=Tryz.isAgg228
 z164:=Tryz.sizeOf228
 v164:=Tryz.zeroValue228}
def Tryz.pV:Builder.Extra Tryz.prog Tryz.yz:={
 sizeBuilder:=kqk
 liesBuilder:=kqk
 t5:=Tryz.underlying5
 a5:=Tryz.isAgg5
 z5:=Tryz.sizeOf5
 v5:=Tryz.zeroValue5
 infoByte:=kqk
 cellsByte:=kqk
 sizeByte:=kqk
 neB5:=by decide}
open Go.RowKit in def Tryz.strings_Join_none(a:Option Addr)(c:Nat)(sep:ByteArray)(w:World):Calls Tryz.prog 239 #[.slice a 0 c,.string sep] w λe w'=>e=.returned (.string ⟨#[]⟩)/\w'=w:=Any.strings_Join_none Tryz.JQ Tryz.pV a c sep w
open Go.RowKit in def Tryz.strings_Join(a o c:Nat)(xs:List ByteArray)(sep:ByteArray)(w:World)(h:∀(j:Nat)x,xs[j]? =some x->w.cell? ⟨a,o+j,none⟩=some (.string x))(d:a<w.heap.size)(b:xs.length<=140737488355328)(f:xs.length<=c)(hlen:(Lib.join (xs.map (·.data.toList)) sep.data.toList).length<=140737488355328):Calls Tryz.prog 239 #[.slice (some ⟨a,o,none⟩) xs.length c,.string sep] w λe w'=>e=.returned (.string ⟨(Lib.join (xs.map (·.data.toList)) sep.data.toList).toArray⟩)/\Below w.heap.size w w':=Any.strings_Join Tryz.JQ Tryz.pV a o c xs sep w h d b f hlen
end Go.Proofs
namespace Go.Proofs.YtgdibfnpkcdiiaaGreatDoor
open Go.RowKit
namespace Ev
def uM{f:Nat}{fn:Func}{c:Code}(hf:Tryz.prog.funcs[f]? =some fn)(hn:(fn.name== "runtime.NumGoroutine")=false)(a:fn.body=some c)(args:Array Value)(w:World):(callFunc f args).run Tryz.prog w=.ok (.enter f args) w:=by
 have hn:fn.name≠ "runtime.NumGoroutine":=by simpa using hn
 simp[callFunc,hf,hn,a]
def DK{f:Nat}{fn:Func}{e:Array Value->Sem Value}(hf:Tryz.prog.funcs[f]? =some fn)(hn:(fn.name== "runtime.NumGoroutine")=false)(a:fn.body=none)(h1:Extern.findNext fn=none)(h2:Extern.find fn=some e){args:Array Value}{v:Value}{w:World}(he:(e args).run Tryz.prog w=.ok v w):(callFunc f args).run Tryz.prog w=.ok (.value v) w:=by
 have hn:fn.name≠ "runtime.NumGoroutine":=by simpa using hn
 simp[callFunc,hf,hn,a,h1,h2,he]
def J9(a b c:Value)(w:World):CallsD Tryz.prog 163 #[a,b,c] .returning w λe f w'=>e=.returned (.tuple #[])/\f=.returning/\w'=w:=by refine callsD_of_wpS Tryz.func163 rfl λd cs hu=>?_;apply wpS_seq;apply wpS_region;simp[wpOpsS,go_sem,recoverD,hu,Tryz.ntmps163,Exit.thenS];refine wpS_of_wp ?_;go_wp2_with fail;cases d;simp_all[bodyPostS,results,Tryz.results163]
def Us:DkV Tryz.prog dk:=λg R nR q d w D hd h0=>by
 obtain⟨fv,first,cap,vs,h1,h2,h3,r,J,L⟩:=D;unfold dk at hd;obtain⟨o,hd⟩:Nat.beq (Nat.mod q.1 16) 10=true/\sel (Nat.beq (Nat.mod (Nat.div q.1 16) 65536) 163) (sel (Nat.beq (Nat.mod (Nat.div q.1 1048576) 256) 0) (Nat.beq (Nat.mod (Nat.div q.1 268435456) 256) 3) false) false=true:=by cases h:Nat.beq (Nat.mod q.1 16) 10 with|true=>rw[h,aj]at hd;exact⟨rfl,hd⟩|false=>rw[h]at hd;cases hd
 obtain⟨j,hd⟩:Nat.beq (Nat.mod (Nat.div q.1 16) 65536) 163=true/\sel (Nat.beq (Nat.mod (Nat.div q.1 1048576) 256) 0) (Nat.beq (Nat.mod (Nat.div q.1 268435456) 256) 3) false=true:=by cases h:Nat.beq (Nat.mod (Nat.div q.1 16) 65536) 163 with|true=>rw[h,aj]at hd;exact⟨rfl,hd⟩|false=>rw[h]at hd;cases hd
 obtain⟨k,l⟩:Nat.beq (Nat.mod (Nat.div q.1 1048576) 256) 0=true/\Nat.beq (Nat.mod (Nat.div q.1 268435456) 256) 3=true:=by cases h:Nat.beq (Nat.mod (Nat.div q.1 1048576) 256) 0 with|true=>rw[h,aj]at hd;exact⟨rfl,hd⟩|false=>rw[h]at hd;cases hd
 have o:=ah o;have j:=ah j;have k:=ah k;have l:=ah l;have t:q.1%16=10:=o;obtain⟨f,m,n,s,ws,I,F,p,u,f1,f2,f3,f4,f5,f6,f7,f8,f9,H⟩:=(h1.aM oqo oqo oqo oqo).om t;obtain⟨v,em,x,G⟩:=Ar (s:=s) f1 f2 f3;rw[p,v]at j;rw[p,em]at k;rw[p,x]at l;subst j;subst k;subst l;injection u with y z A;subst y;subst z;subst A;rw[h0]at r;have E:vs=#[]:=by apply jjk;simpa using r.symm
 have B:first=#[]:=jjk f6;subst E;subst B;obtain⟨a,b,c,rfl⟩:∃a b c,cap=#[a,b,c]:=by
  refine⟨cap[0],cap[1],cap[2],?_⟩;apply Array.ext;·simpa using f7
  ·intro i hi C;have:i=0\/i=1\/i=2:=by simp at C;omega
   rcases this with rfl|rfl|rfl<;>rfl
 ·refine⟨.func 163,#[a,b,c],163,#[a,b,c],by rw[h3],?_,(J9 a b c w).mono λe M w'⟨k1,k2,k3⟩=>⟨_,k1,k2,by rw[k3];exact ma.refl _⟩⟩;rw[h3];simp only[invoke];exact uM Tryz.func163 rfl rfl _ _
def Uw:∀f h,hk f=some h->AQ Tryz.prog K0 f h:=λf h e=>by unfold hk at e;cases h1:Nat.beq f 239 with|true=>rw[h1,aj]at e;injection e with e;subst e;have h1:=ah h1;subst h1;exact Tm (λargs w=>uM Tryz.func239 rfl rfl args w) Tryz.strings_Join_none λd o c xs i w a b a3 a4 a5=>Tryz.strings_Join d o c xs i w a b a3 a4 a5|false=>rw[h1,ag]at e;cases h2:Nat.beq f 303 with|true=>rw[h2,aj]at e;injection e with e;subst e;have h2:=ah h2;subst h2;exact Vz λs c w=>DK Tryz.func303 rfl rfl kqk kqk (Lib.run_indexByteString s c w)|false=>rw[h2,ag]at e;cases h3:Nat.beq f 319 with|true=>rw[h3,aj]at e;injection e with e;subst e;have h3:=ah h3;subst h3;exact Vi λs c w=>DK Tryz.func319 rfl rfl kqk kqk (Lib.run_countString s c w)|false=>rw[h3]at e;cases e
def aai:K0.S<2^(8*K0.n):=Nat.le_of_ble_eq_true kqk
def Zx(K:Kon)(a:K.S<2^(8*K.n))(w:World):HR K.gh ⟨0,[(0,[])],0,0,0,0,K.S,K.n⟩ w:=by have free:∀s,K.gh.rho s=.free:=λs=>rfl;exact⟨rfl,rfl,a,Nat.one_pos,Nat.one_pos,λs h=>absurd (free s) h,λs s' _ h=>absurd (free s) h,λs blk base z room h=>(by rw[free s]at h;cases h),λs ws h=>(by rw[free s]at h;cases h),λs blk h=>(by rw[free s]at h;cases h),λs s' blk base z room base' z' room' _ h=>(by rw[free s]at h;cases h),λs s' blk h=>(by rw[free s]at h;cases h)⟩
def hr0(w:World):HR K0.gh ⟨0,[(0,[])],0,0,0,0,K0.S,K0.n⟩ w:=Zx K0 aai w
end Ev
namespace Ev
def ZI{b c:Bool}(h:sel b c false=true):b=true/\c=true:=by cases b with|true=>exact⟨rfl,h⟩|false=>cases h
end Ev
