/- Joint text: EwJ, EwK, Shelf, EwL, EwM, EwP, EwO, EwT, HOneB, HOneC. By an AI agent. -/
import Derived.Test.YtgdibfnpkcdiiaaGreatDoorR13
import Derived.Recover
import Derived.Lib.Bytealg
import Derived.Lib.Join
import Derived.Shelf.Strings.Builder1
import Derived.Shelf.Strings.Builder2
import Derived.Shelf.Strings.OnBuilder
import Derived.Shelf.Small.Strs
import Derived.Shelf.Strings.BuilderF
import Derived.Shelf.Strings.BuilderK
import Derived.Shelf.Utf8.RuneCount
import Derived.Shelf.Strings.Builder2Cap
import Derived.Shelf.Strconv.Itoa0
import Derived.Shelf.Strconv.Itoa1
import Derived.Shelf.LaysM
import Derived.Shelf.Strconv.Itoa2
import Derived.Shelf.Strconv.Itoa3
import Derived.Shelf.Strconv.Itoa4
import Derived.Shelf.Strconv.Clone
import Derived.Shelf.Strconv.SyntaxError
import Derived.Shelf.LaysC
import Derived.Shelf.Strconv.ToError
import Derived.Shelf.Strconv.Lower
import Derived.Shelf.Strconv.ParseUint10
import Derived.Shelf.Strconv.ParseUint10Empty
import Derived.Shelf.Strconv.ParseUint10Any
import Derived.Shelf.Strconv.RangeError
import Derived.Shelf.Strconv.ToErrorRange
import Derived.Shelf.Strconv.ParseUintEmpty
import Derived.Shelf.Strconv.ParseUint10b64
import Derived.Shelf.Strconv.ParseUint10b32
import Derived.Shelf.Strconv.ParseUint10b16
import Derived.Shelf.Strconv.ParseUint10b8
import Derived.Shelf.Strconv.ParseUint10At
import Derived.Shelf.Strings.Search1
import Derived.Shelf.Strings.Search2
import Derived.Shelf.Strings.Search3
import Derived.Shelf.Strings.Count
import Derived.Shelf.Strings.Shaped
import Derived.Shelf.Strings.Prefix
import Derived.Shelf.Strings.Split
import Derived.Shelf.Strings.SplitShaped
import Derived.Shelf.Unicode.Decode
import Derived.Shelf.Strings.RuneCount
import Derived.Shelf.Strings.Explode
import Derived.Shelf.Bits.Mul64
import Derived.Shelf.Unicode.DecodeSlow
import Derived.Shelf.Unicode.DecodeAny
import Derived.Shelf.Strings.BuilderCap
import Derived.Shelf.Slices.Turned
import Derived.Shelf.Slices.Equal
import Derived.Ground.Names2Prog
import Derived.Shelf.Slices.Clone
import Derived.Shelf.Slices.Empties2
import Derived.Ground.SlgnProg
import Derived.Shelf.SlicesG.Equal
import Derived.Shelf.SlicesG.Clone
import Derived.Shelf.SlicesE.Clone
set_option linter.all false
set_option maxRecDepth 100000
set_option maxHeartbeats 64000000
noncomputable section
namespace Go.Proofs.YtgdibfnpkcdiiaaGreatDoor
namespace Ev
def Ao(P:Program)(K:Kon)(f:Nat)(h:St->RS):Prop:= ∀(g:Gh)(st:St)(w:World)(args:Array Value)(x:Nat)(st':St),K.In g->HR g st w->st.D=[(args.size,[])]->(∀i,TR g st.R st.nR (gt st.T i) (args.getD i undef))->(∀i,args.size<=i->gt st.T i=0)->h st=.ok x st'->mR P f args w λv w'=>∃g',zK g st w g' st' w' x v
def DkV(P:Program)(dk:Nat->Bool):Prop:= ∀(g:Gh)(R nR:Nat)(q:Nat×List Nat)(d:Deferred)(w:World),FV g R nR q d->dk q.1=true->q.2=[]-> ∃fv cap f args,d.target=.fn fv cap/\(invoke d.target d.args).run P w=.ok (.enter f args) w/\CallsD P f args .returning w λe a w'=>∃v,e=.returned v/\a=.returning/\kX w w'
section
variable {P:Program}{K:Kon}{X:Nat->Nat->Option cZ}{hk:Nat->Option (St->RS)}{dk:Nat->Bool}{fuel:Nat}
theorem uq(hd:DkV P dk){call:Nat->St->RS}(hc:zF (ER P) K call){fn:Func}{tmps:Array Value}{R:Ending->World->Prop}{x:Nat}{b:St}:∀(l:List (Nat×List Nat))(ds:List Deferred)(g:Gh)(st:St)(w:World),K.In g->HR g st w->DR g st.R st.nR l ds->yw call dk l st=.ok x b->(∀g' w',K.In g'->HR g' b w'->Fr g w g' w'->Ext st.R st.nR b.R b.nR->b.T=st.T->∃v,(results fn tmps).run P w'=.ok v w'/\R (.returned v) w')->Leaves P fn tmps R ds .returning w|[],ds,g,st,w,hk,j,c,e,i=>by cases c;change RS.ok 0 st=.ok x b at e;injection e with _ e;subst e;exact i g w hk j (Fr.refl _ _) (Ext.refl _ _) rfl|(h,ws)::l,ds,g,st,w,hk,j,c,e,i=>by cases c with| @cons _ d _ ds' r c=>have e:sel (dk h) (sel (Nat.beq ws.length 0) (yw call dk l st) RS.no) (RS.rec .no (λ_ st=>yw call dk l st) (dyn call h ws st))=RS.ok x b:=e;cases o:dk h with|true=>rw[o,ak]at e;obtain⟨h0,e⟩:=ag e;obtain⟨fv,cap,f,args,h1,h2,h3⟩:=hd g st.R st.nR (h,ws) d w r o (jxq.1 (ai h0));refine⟨by simp,fv,cap,f,args,h1,h2,h3.mono λe H w'⟨v,k,m,u⟩=>?_⟩;subst k;subst m;show Leaves P fn tmps R ds' .returning w';obtain⟨s,t⟩:=u g st j;exact uq hd hc l ds' g st w' hk s c e λg' q k1 k2 k3 k4 k5=>i g' q k1 k2 (t.trans k3) k4 k5|false=>rw[o,ah]at e;cases p:dyn call h ws st with|no=>rw[p]at e;cases e|ok L G=>
     rw[p]at e;obtain⟨fv,first,cap,vs,h1,h2,h3,B,C,D⟩:=r;obtain⟨f,J,I,y,E,F⟩:=He (Ga P) hc hk j h1 B C D p;injection y with z n A;subst z;subst n;subst A;refine⟨by simp,.func f,cap,f,first++vs++cap,by rw[h3],?_,F.mono λe H w'⟨v,k,m,g',a⟩=>?_⟩;·rw[h3];exact E
     ·subst k;subst m;show Leaves P fn tmps R ds' .returning w';exact uq hd hc l ds' g' G w' (hk.le a.fr.le) a.hr (c.mono a.fr.le a.ext) e λn q k1 k2 k3 k4 k5=>i n q k1 k2 (a.fr.trans k3) (a.ext.trans k4) (k5.trans a.T)
theorem Lj{g:Gh}{st:St}{args:Array Value}{m:Nat}(hs:∀i,TR g st.R st.nR (gt st.T i) (args.getD i undef))(h0:∀i,args.size<=i->gt st.T i=0):FR g {st with D:=[]} {tmps:=args++Array.replicate (m-args.size) undef,defers:=[]} m:=by
 refine⟨by simp;omega,λt=>?_,.nil⟩;by_cases ht:t<args.size
 ·have:({tmps:=args++Array.replicate (m-args.size) undef,defers:=[]}:Act).eval (.tmp t)=args.getD t undef:=by simp[Act.eval,qqg,jzz,ht]
  rw[this];exact hs t
 ·rw[h0 t oqo];exact .unk _
theorem VD{g:Gh}{R nR:Nat}{ds:List Deferred}(h:DR g R nR [] ds):ds=[]:=by cases h;rfl
theorem BS{f:Nat}{F:Fun}(h:yg P K X f=some F):∃fn c a,P.funcs[f]? =some fn/\fn.body=some c/\iB P K fn.results.toList=some a/\fn.name≠ "runtime.NumGoroutine"/\F=⟨fM P K (X f) fn.ntmps c,a⟩:=by
 unfold yg at h;split at h
 ·rename_i fn d;split at h
  ·rename_i c a b i;split at h;·cases h
   ·rename_i e;injection h with h;exact⟨fn,c,a,d,b,i,by simpa using e,h.symm⟩
  ·cases h
 ·cases h
theorem OZ(H:∀f fn c,P.funcs[f]? =some fn->fn.body=some c->okX P K (X f) fn.ntmps c=true)(hm:P.follows .mixedOrders=true){call:Nat->St->RS}(ih:kG P K call):zF (ER P) K (wN P K X call fuel):=λf g st w args x st' L o Q hs h0 e=>by unfold wN at e;cases hF:yg P K X f with|none=>rw[hF]at e;cases e|some F=>rw[hF]at e;obtain⟨fn,c,O,h,d,p,M,rfl⟩:=BS hF;change RS.rec .no (λx st=>sel (Nat.ble x 1) (List.rec (res O st) (λ_ _ _=>.no) st.D) .no) (gZ call fuel (fM P K (X f) fn.ntmps c) {st with D:=[]})=RS.ok x st' at e;have J:HR g {st with D:=[]} w:=o.frame _ _ o.Rlt;cases i:gZ call fuel (fM P K (X f) fn.ntmps c) {st with D:=[]}with|no=>rw[i]at e;cases e|ok y r=>rw[i]at e;dsimp only at e;obtain⟨h1,e⟩:=ag e;have h1:=dY h1;refine⟨by simp[callFunc,h,M,d],callsD_of_wpS h d λb cs hu=>wpS_of_wp ?_⟩;refine(yI (n:=fn.ntmps) hm ih fuel).1 c g {st with D:=[]} w _ y r _ (H f fn c h d) L J (Lj hs h0) i λw' a G=>?_;obtain⟨g',z,A,B,C,j⟩:=G;have m:=j.defers;cases k:r.D with|cons q l=>rw[k]at e;cases e|nil=>
    rw[k]at e m;have N:a.defers=[]:=VD m;obtain⟨E,w3,v,u1,u2⟩:=MF (tmps:=a.tmps) (K:=K) (fn:=fn) z A (λt=>j.slot t) p e;have:=ug p u1;subst this;have I:b::cs={b with mode:=FrameMode.returning}::cs:=by rw[<-hu]
    have fin:a.defers=[]/\∃s,b::cs={b with mode:=s}::cs/\∃v,(results fn a.tmps).run P w3=.ok v w3/\∃u,Ending.returned v=.returned u/\s=.returning/\∃g',zK g st w g' st' w3 x u:=⟨N,_,I,v,u1,v,rfl,rfl,E,⟨u2.hr,B.trans u2.fr,C.trans u2.ext,u2.tr⟩⟩;match y,h1 with|0,_=>exact fin|1,_=>exact fin
theorem yh(d:∀f fn c,P.funcs[f]? =some fn->fn.body=some c->okX P K (X f) fn.ntmps c=true)(hm:P.follows .mixedOrders=true)(q:∀f h,hk f=some h->Ao P K f h)(hd:DkV P dk):∀n,kG P K (jO P K X hk dk fuel n)
 |0=>λ_ _ _ _ _ _ _ _ _ _ _ _ e=>nomatch e|n+1=>λf g st w args x st' r k E hs h0 e=>by
  have ih:=yh d hm q hd n;cases hf:hk f with|some h=>
   change Option.rec _ (λh=>h st) (hk f)=RS.ok x st' at e
   rw[hf]at e;exact q f h hf g st w args x st' r k E hs h0 e|none=>change Option.rec (Option.rec .no (λF=>Fun.rec (λcode m=>RS.rec .no (λx st=>sel (Nat.ble x 1) (RS.rec .no (λ_ st=>res m st) (yw (wN P K X (jO P K X hk dk fuel n) fuel) dk st.D (setD [] st))) .no)
    (noD (gZ (jO P K X hk dk fuel n) fuel code) st)) F) (yg P K X f)) (λh=>h st) (hk f)=RS.ok x st' at e;rw[hf]at e;cases hF:yg P K X f with|none=>rw[hF]at e;cases e|some F=>
    rw[hF]at e;obtain⟨fn,c,m,j,i,s,H,rfl⟩:=BS hF;change RS.rec .no (λx st=>sel (Nat.ble x 1) (RS.rec .no (λ_ st=>res m st) (yw (wN P K X (jO P K X hk dk fuel n) fuel) dk st.D (setD [] st))) .no)
     (gZ (jO P K X hk dk fuel n) fuel (fM P K (X f) fn.ntmps c) {st with D:=[]})=RS.ok x st' at e;have G:HR g {st with D:=[]} w:=k.frame _ _ k.Rlt;cases l:gZ (jO P K X hk dk fuel n) fuel (fM P K (X f) fn.ntmps c) {st with D:=[]}with|no=>rw[l]at e;cases e|ok u a=>rw[l]at e;dsimp only at e;obtain⟨h1,e⟩:=ag e;have h1:=dY h1;cases hr:yw (wN P K X (jO P K X hk dk fuel n) fuel) dk a.D (setD [] a)with|no=>rw[hr]at e;cases e|ok N L=>
      rw[hr]at e;dsimp only at e;refine .inl ⟨by simp[callFunc,j,H,i],calls_of_wp_defers j i ?_⟩;refine(yI (n:=fn.ntmps) hm ih fuel).1 c g {st with D:=[]} w _ u a _ (d f fn c j i) r G (Lj hs h0) l λw' b C=>?_;obtain⟨g',y,o,z,A,p⟩:=C;have I:HR g' {a with D:=[]} w':=o.frame _ _ o.Rlt;have hl:Leaves P fn b.tmps (λe w'=>∃v,e=.returned v/\∃g',zK g st w g' st' w' x v) b.defers .returning w':=by refine uq (K:=K) hd (OZ (fuel:=fuel) d hm ih) a.D b.defers g' {a with D:=[]} w' y I p.defers hr λJ M k1 k2 k3 k4 k5=>?_;obtain⟨B,w3,v,u1,u2⟩:=MF (tmps:=b.tmps) (K:=K) (fn:=fn) k1 k2 (λt=>by rw[k5];exact(p.slot t).mono k3.le k4) s e;have:=ug s u1;subst this;exact⟨v,u1,v,rfl,B,⟨u2.hr,(z.trans k3).trans u2.fr,(A.trans k4).trans u2.ext,u2.tr⟩⟩
      match u,h1 with|0,_=>exact hl|1,_=>exact hl
end
end Ev
open Go.RowKit
namespace Ev
theorem Dp{st st':St}{n x:Nat}{r:RS}(h:st.D=[(n,[])])(e:two st r=.ok x st'):n=2/\r=.ok x st':=by unfold two at e;rw[h]at e;obtain⟨h1,h2⟩:=ag e;exact⟨ai h1,h2⟩
section
variable {P:Program}{K:Kon}{g:Gh}{st:St}{w w':World}
theorem HR.below(h:HR g st w)(a:Below w.heap.size w w'):HR g st w'/\Fr g w g w':=by
 refine⟨⟨h.S,h.nS,h.Slt,h.Mlt,h.Rlt,h.top,h.iV,λs blk base z room hs=>?_,h.rows,λs blk hs=>?_,h.inj,h.l6⟩,⟨a.os,a.tape,a.output,a.size,Gh.le.refl _,λb d _=>a.block b d,λ_ _ h=>h⟩⟩;·obtain⟨c,e,fr,hc⟩:=h.cells s blk base z room hs;exact⟨c,e,fr,(a.block blk (qqs.1 hc.heap).1).trans hc.heap,hc.size,hc.room,hc.one,hc.vr,hc.thaw⟩
 ·obtain⟨o,ho,hm⟩:=h.maps s blk hs;exact⟨o,(a.block blk (qqs.1 ho).1).trans ho,hm⟩
theorem MR(S a n b:Nat)(d:b<256):∀k,k<=n->(ixb S a n b k=0/\Lib.indexByte (((List.range n).map λi=>UInt8.ofNat (aN S (a+i))).drop (n-k)) (UInt8.ofNat b)= -1)\/ ∃j:Nat,Lib.indexByte (((List.range n).map λi=>UInt8.ofNat (aN S (a+i))).drop (n-k)) (UInt8.ofNat b)=j/\ixb S a n b k=n-k+j+1/\j<k
 |0,_=>.inl ⟨rfl,by rw[jxt (by simp)];rfl⟩|k+1,hk=>by
  have e:ixb S a n b (k+1)=sel (Nat.beq (aN S (a+(n-k-1))) b) (n-k) (ixb S a n b k):=rfl;have hd:((List.range n).map λi=>UInt8.ofNat (aN S (a+i))).drop (n-(k+1))=UInt8.ofNat (aN S (a+(n-k-1)))::((List.range n).map λi=>UInt8.ofNat (aN S (a+i))).drop (n-k):=by
   rw[jqo (by simp;omega)];congr 1;·simp[show n-(k+1)=n-k-1 by omega]
   ·rw[show n-(k+1)+1=n-k by omega]
  rw[e,hd,Lib.indexByte];cases c:Nat.beq (aN S (a+(n-k-1))) b with|true=>rw[ak];have c:=ai c;rw[c];exact .inr ⟨0,by simp,by omega,by omega⟩|false=>
   rw[ah];have c:=fH c;have f:(UInt8.ofNat (aN S (a+(n-k-1)))==UInt8.ofNat b)=false:=by rw[qqe];exact λh=>c (yu (jm _ _) d h)
   rw[f];rcases MR S a n b d k oqo with⟨h1,h2⟩|⟨j,h1,h2,h3⟩;·exact .inl ⟨h1,by rw[h2];rfl⟩
   ·refine .inr ⟨j+1,?_,by omega,by omega⟩;rw[h1];have:((j:Int)== -1)=false:=by rw[qqe];omega
    rw[this];simp
theorem LJ(S a b:Nat)(d:b<256):∀k,Lib.countByte ((List.range k).map λi=>UInt8.ofNat (aN S (a+i))) (UInt8.ofNat b)=cnb S a b k/\cnb S a b k<=k|0=>⟨rfl,qqf _⟩|k+1=>by have e:cnb S a b (k+1)=sel (Nat.beq (aN S (a+k)) b) (cnb S a b k+1) (cnb S a b k):=rfl;obtain⟨f,l⟩:=LJ S a b d k;unfold Lib.countByte at f⊢;rw[List.range_succ,jxf,List.count_append,f,e];cases c:Nat.beq (aN S (a+k)) b with|true=>have c:=ai c;rw[ak];exact⟨by simp[c],by omega⟩|false=>
   have c:=fH c;have j:¬UInt8.ofNat (aN S (a+k))=UInt8.ofNat b:=λh=>c (yu (jm _ _) d h);rw[ah];refine⟨?_,by omega⟩;have:List.count (UInt8.ofNat b) (List.map (λi=>UInt8.ofNat (aN S (a+i))) [k])=0:=by rw[jqw,List.map_nil,List.count_cons,List.count_nil];simp[j]
   rw[this,qzz]
theorem BQ{x:Nat}{v:Value}(h:TR g st.R st.nR x v)(h1:x%256=66)(h2:ixN x<256):∃m:Int,v=.int .u8 m/\m.toNat.toUInt8=UInt8.ofNat (ixN x):=by
 have f:x≠0:=by intro e;subst e;simp at h1
 obtain⟨k,m,a,b,i,j⟩:=(h.aP oqo oqo oqo f).jf oqo;have hk:=iY k;have d:kc k=4:=by
  have:(aC k m)%256=2+16*kc k:=by unfold aC;omega
  rw[<-a,h1]at this;omega
 have c:k=.u8:=uT (d.trans rfl);subst c;refine⟨m,b,?_⟩;have hm:ixN x=m.toNat:=by show x/256-9223372036854775808=m.toNat;rw[a];unfold aC;have:(2+16*kc .u8+256*(m+9223372036854775808).toNat)/256=(m+9223372036854775808).toNat:=oqo;rw[this];omega
 rw[hm]
theorem yP(b:Nat):aC .i64 (b:Int)=2361183241434822606898+256*b:=by show 2+16*3+256*((b:Int)+9223372036854775808).toNat=_;omega
theorem Su:aC .i64 (-1)=2361183241434822606642:=by show 2+16*3+256*((-1:Int)+9223372036854775808).toNat=_;omega
theorem PZ(c b:Nat):c+256*(b+1)-256=c+256*b:=oqo
theorem Tu{c d:Nat}(h:c=d+256):c+256*0-256=d:=oqo
theorem yx{args:Array Value}{u v:Value}(ha:args.size=2)(h0:args.getD 0 undef=u)(h1:args.getD 1 undef=v):args=#[u,v]:=by
 subst h0;subst h1;apply Array.ext;·simpa using ha
 ·intro i hi a;have:i=0\/i=1:=by simp at a;omega
  rcases this with rfl|rfl<;>simp[qqg,hi]
theorem VN{g:Gh}{x n:Nat}{i:Int}{k:Nat}(hn:n<16777216)(e:2361183241434822606898+256*k-256=x)(h:(k=0/\i= -1)\/∃j:Nat,i=j/\k=j+1/\j<n):VR g x (.int .i64 i):=by
 rcases h with⟨rfl,rfl⟩|⟨j,rfl,rfl,hj⟩;·rw[Tu (d:=2361183241434822606642) (by decide),<-Su]at e;rw[<-e];exact .int .i64 (-1) (by decide) (by decide)
 ·rw[PZ,<-yP]at e;rw[<-e];exact .int .i64 j oqo oqo
theorem RX{f:Nat}(hc:∀(s:ByteArray)(c:Int)(w:World),(callFunc f #[.string s,.int .u8 c]).run P w=.ok (.value (.int .i64 (Lib.indexByte s.data.toList c.toNat.toUInt8))) w):Ao P K f U1:=λg st w args x st' hk d p hs _ e=>by
 obtain⟨ha,e⟩:=Dp p e;obtain⟨h1,e⟩:=ag e;obtain⟨h2,e⟩:=ag e;obtain⟨h3,e⟩:=ag e;have h3:=aY h3;obtain⟨r,l,a3,a4,a5⟩:=(hs 0).str (ai h1);obtain⟨m,b1,b2⟩:=BQ (hs 1) (ai h2) h3;have a:=MR g.S (sa (gt st.T 0)) (ln (gt st.T 0)) (ixN (gt st.T 1)) h3 (ln (gt st.T 0)) (qqf _);rw[jzj,List.drop_zero]at a;rw[d.S]at e;rw[yx ha l b1];have hv:=hc (strOf g.S (sa (gt st.T 0)) (ln (gt st.T 0))) m w;rw[b2,bM]at hv;generalize ixb g.S (sa (gt st.T 0)) (ln (gt st.T 0)) (ixN (gt st.T 1)) (ln (gt st.T 0))=k at a e;generalize Lib.indexByte _ _=i at a hv;simp only[nA,nM,nS]at e;injection e with n o;subst o;refine .inr ⟨_,w,hv,g,d,Fr.refl _ _,Ext.refl _ _,.cell _ _ (VN a3 n ?_)⟩;rcases a with⟨b,h⟩|⟨j,b,h,q⟩;·exact .inl ⟨b,h⟩
 ·exact .inr ⟨j,b,by omega,q⟩
theorem Tq{f:Nat}(hc:∀(s:ByteArray)(c:Int)(w:World),(callFunc f #[.string s,.int .u8 c]).run P w=.ok (.value (.int .i64 (Lib.countByte s.data.toList c.toNat.toUInt8))) w):Ao P K f UB:=λg st w args x st' hk b i hs _ e=>by obtain⟨ha,e⟩:=Dp i e;obtain⟨h1,e⟩:=ag e;obtain⟨h2,e⟩:=ag e;obtain⟨h3,e⟩:=ag e;have h3:=aY h3;obtain⟨n,d,a3,a4,a5⟩:=(hs 0).str (ai h1);obtain⟨m,b1,b2⟩:=BQ (hs 1) (ai h2) h3;obtain⟨j,l⟩:=LJ g.S (sa (gt st.T 0)) (ixN (gt st.T 1)) h3 (ln (gt st.T 0));rw[b.S]at e;rw[yx ha d b1];have hv:=hc (strOf g.S (sa (gt st.T 0)) (ln (gt st.T 0))) m w;rw[b2,bM,j]at hv;generalize cnb g.S (sa (gt st.T 0)) (ixN (gt st.T 1)) (ln (gt st.T 0))=k at l e hv;simp only[nA,nM]at e;injection e with a h;subst h;rw[<-yP]at a;refine .inr ⟨_,w,hv,g,b,Fr.refl _ _,Ext.refl _ _,.cell _ _ ?_⟩;rw[<-a];exact .int .i64 k oqo oqo
theorem Hz{A m c l:Nat}(a:A<2^(8*m)):(strOf (adS A m c) 0 (m+l)).data.toList=(strOf A 0 m).data.toList++(strOf c 0 l).data.toList:=by
 rw[bM,bM,bM,List.range_add,jxf,qzx];congr 1;·refine jqg λi hi=>?_;rw[jG _ _ a,qzb (by have:=qzg.1 hi;omega)]
 ·refine jqg λi hi=>?_;show UInt8.ofNat (aN (adS A m c) (0+(m+i)))=_;rw[jG _ _ a,qzc oqo,show 0+(m+i)-m=0+i by omega]
theorem AJ(S a l:Nat):(strOf (chS S a l) 0 l).data.toList=(strOf S a l).data.toList:=by rw[bM,bM];refine jqg λi hi=>?_;rw[lV,qja,qzb (qzg.1 hi)]
theorem MV(x y:List UInt8)(r:List (List UInt8))(a:List UInt8):Lib.join (x::y::r) a=x++(a++Lib.join (y::r) a):=by rw[Lib.join_cons,Lib.join_cons];simp[Lib.joinTail]
theorem Qb{α:Type}{b:Bool}{x:Option α}{y:α}(h:sel b x none=some y):b=true/\x=some y:=by cases b with|true=>exact⟨rfl,h⟩|false=>cases h
def iZ(S M a n:Nat):List ByteArray:=(List.range n).map λj=>strOf S (sa (gt M (a+j))) (ln (gt M (a+j)))
theorem Rn(S M a d n:Nat):∀k,k<=n->∀l c,jn S M a d n k=some ⟨l,c⟩->c<2^(8*l)/\(∀j,n-k<=j->j<n->gt M (a+j)%16=3)/\(strOf c 0 l).data.toList=Lib.join (((iZ S M a n).drop (n-k)).map λx=>x.data.toList) (strOf S (sa d) (ln d)).data.toList
 |0,_,l,c,e=>by have e:some (⟨0,0⟩:Src)=some ⟨l,c⟩:=e;injection e with e;injection e with f h;subst f;subst h;exact⟨by simp,λj h1 h2=>by omega,by rw[jxt (by simp[iZ])];rfl⟩|k+1,hk,l,c,e=>by
  have b:(Option.rec none (λq=>Src.rec (λl c=>sel (Nat.beq (Nat.mod (gt M (a+(n-k-1))) 16) 3)
   (sel (Nat.beq k 0) (some ⟨ln (gt M (a+(n-k-1))),chS S (sa (gt M (a+(n-k-1)))) (ln (gt M (a+(n-k-1))))⟩)
    (some ⟨ln (gt M (a+(n-k-1)))+(ln d+l),adS (chS S (sa (gt M (a+(n-k-1)))) (ln (gt M (a+(n-k-1))))) (ln (gt M (a+(n-k-1)))) (adS (chS S (sa d) (ln d)) (ln d) c)⟩)) none) q) (jn S M a d n k):Option Src)=some ⟨l,c⟩:=e;have hd:(iZ S M a n).drop (n-(k+1))=strOf S (sa (gt M (a+(n-k-1)))) (ln (gt M (a+(n-k-1))))::(iZ S M a n).drop (n-k):=by
   rw[jqo (by simp[iZ];omega)];congr 1;·simp[iZ,show n-(k+1)=n-k-1 by omega]
   ·rw[show n-(k+1)+1=n-k by omega]
  rw[hd];clear e hd;generalize s:gt M (a+(n-k-1))=D at b⊢;cases hj:jn S M a d n k with|none=>rw[hj]at b;cases b|some q=>
   obtain⟨B,c0⟩:=q;rw[hj]at b;obtain⟨h1,b⟩:=Qb b;obtain⟨u,v,z⟩:=Rn S M a d n k oqo B c0 hj;have i:∀j,n-(k+1)<=j->j<n->gt M (a+j)%16=3:=λj C A=>by
    by_cases o:j=n-k-1;·rw[o,s];exact ai h1
    ·exact v j oqo A
   cases h2:Nat.beq k 0 with|true=>rw[h2,ak]at b;have h2:=ai h2;injection b with b;injection b with f h;subst f;subst h;refine⟨mh _ _ _,i,?_⟩;rw[AJ,jxt (by simp[iZ];omega),jqw,List.map_nil,Lib.join_one]|false=>
    rw[h2,ah]at b;have h2:=fH h2;injection b with b;injection b with f h;subst f;subst h;have m:=zn (mh S (sa d) (ln d)) u;refine⟨zn (mh _ _ _) m,i,?_⟩;rw[Hz (mh _ _ _),Hz (mh _ _ _),AJ,AJ,z];obtain⟨y,r,t⟩:∃y r,(iZ S M a n).drop (n-k)=y::r:=by cases p:(iZ S M a n).drop (n-k)with|nil=>have:=jqi List.length p;simp[iZ]at this;omega|cons y r=>exact⟨y,r,rfl⟩
    rw[t,jqw,jqw,jqw,MV]
theorem Q3{f:Nat}(F:∀args w,(callFunc f args).run P w=.ok (.enter f args) w)(I:∀(a:Option Addr)(c:Nat)(h:ByteArray)(w:World),Calls P f #[.slice a 0 c,.string h] w λe w'=>e=.returned (.string ⟨#[]⟩)/\w'=w)(J:∀(m o c:Nat)(xs:List ByteArray)(h:ByteArray)(w:World)(_:∀(j:Nat)x,xs[j]? =some x->w.cell? ⟨m,o+j,none⟩=some (.string x))(_:m<w.heap.size)(_:xs.length<=140737488355328)(_:xs.length<=c)(_:(Lib.join (xs.map (·.data.toList)) h.data.toList).length<=140737488355328),Calls P f #[.slice (some ⟨m,o,none⟩) xs.length c,.string h] w λe w'=>e=.returned (.string ⟨(Lib.join (xs.map (·.data.toList)) h.data.toList).toArray⟩)/\Below w.heap.size w w'):Ao P K f Rv:=λg st w args x st' hk b C hs _ e=>by obtain⟨ha,e⟩:=Dp C e;obtain⟨h1,e⟩:=ag e;obtain⟨h2,e⟩:=ag e;obtain⟨h3,e⟩:=ag e;obtain⟨p,e⟩:=ag e;have p:=aY p;cases hj:jn st.S st.M (Nat.add (ps (gt st.T 0)) (so (gt st.T 0))) (gt st.T 1) (sl (gt st.T 0)) (sl (gt st.T 0))with|none=>rw[hj]at e;cases e|some q=>
  obtain⟨l,c⟩:=q;rw[hj]at e;obtain⟨r,e⟩:=ag e;have r:=aY r;rw[bX]at e;injection e with B n;rw[nA]at hj n;obtain⟨N,O,k⟩:=Rn _ _ _ _ _ _ (qqf _) l c hj;rw[jzj,List.drop_zero]at k;obtain⟨b1,b2,V,W,Y⟩:=(hs 1).str (ai h1);obtain⟨blk,base,room,cap,ad,c1,c2,c3,c4,c5,c6,c7,c8,c9,d⟩:=(hs 0).sli (ai h2);have h3:=ai h3;rw[h3,jzb]at c8;have y:strOf st.S (sa (gt st.T 1)) (ln (gt st.T 1))=strOf g.S (sa (gt st.T 1)) (ln (gt st.T 1)):=by rw[b.S]
  have D:=yx ha c2 b2;have fin:∀(v:ByteArray)(w':World),v.data.toList=(strOf c 0 l).data.toList->Below w.heap.size w w'->∃g',zK g st w g' st' w' x (.string v):=λv w' hv E=>by
   obtain⟨T,U⟩:=b.below E;obtain⟨Q,S⟩:=T.pool l c N;refine⟨_,by rw[<-n];exact Q,U.trans S,by rw[<-n];exact Ext.refl _ _,?_⟩;rw[<-B];have M:v=strOf (adS st.S st.nS c) st.nS l:=by apply jje;apply jxj;rw[hv,bM,bM];refine jqg λi hi=>?_;rw[jG _ _ b.Slt,qzc oqo,show st.nS+i-st.nS=0+i by omega]
   rw[M];exact .cell _ _ (.str st.nS l r (qqf _) p)
  rw[D];refine .inl ⟨F _ _,?_⟩;by_cases h0:sl (gt st.T 0)=0;·rw[h0];refine(I _ _ _ _).mono λe w'⟨k1,k2⟩=>⟨_,k1,fin _ _ ?_ (by rw[k2];exact qjk _ _)⟩;rw[k,h0];rfl
  ·have G:cap≠0:=by omega
   rcases d with d|⟨d,Z⟩;·exact absurd d G
   ·have u:(iZ st.S st.M (ps (gt st.T 0)+so (gt st.T 0)) (sl (gt st.T 0))).length=sl (gt st.T 0):=by simp[iZ]
    have H:∀(j:Nat)x,(iZ st.S st.M (ps (gt st.T 0)+so (gt st.T 0)) (sl (gt st.T 0)))[j]? =some x->w.cell? ⟨blk,base+so (gt st.T 0)+j,none⟩=some (.string x):=λj x s=>by
     have t:j<sl (gt st.T 0):=by rw[<-u];exact(qqi.1 s).1
     obtain⟨v,z,A⟩:=b.load c7 (o:=so (gt st.T 0)+j) oqo;rw[<-jqp]at z A;have ht:=O j oqo t;obtain⟨u1,u2,_⟩:=(TR.cell (R:=0) (nR:=0) _ _ A).str ht;rw[z,u2];have:x=strOf st.S (sa (gt st.M (ps (gt st.T 0)+so (gt st.T 0)+j))) (ln (gt st.M (ps (gt st.T 0)+so (gt st.T 0)+j))):=by simp only[iZ,qqp,qqz t,jqb,qzk]at s;exact s.symm
     rw[this,b.S]
    have d0:=(@qqv _ _ (strOf c 0 l).data.toList id);have L:(Lib.join ((iZ st.S st.M (ps (gt st.T 0)+so (gt st.T 0)) (sl (gt st.T 0))).map (·.data.toList)) (strOf g.S (sa (gt st.T 1)) (ln (gt st.T 1))).data.toList).length=l:=by rw[<-y,<-k,bM];simp
    have:=J blk (base+so (gt st.T 0)) cap (iZ st.S st.M (ps (gt st.T 0)+so (gt st.T 0)) (sl (gt st.T 0))) (strOf g.S (sa (gt st.T 1)) (ln (gt st.T 1))) w H (Ab b (.inl ⟨_,_,_,_,c7⟩)) oqo oqo (by rw[L];omega);rw[u]at this;rw[d];refine this.mono λe w'⟨k1,k2⟩=>⟨_,k1,fin _ _ ?_ k2⟩;rw[k,y]
end
end Ev
end Go.Proofs.YtgdibfnpkcdiiaaGreatDoor
namespace Go.Proofs
open Go.Proofs.YtgdibfnpkcdiiaaGreatDoor
open Go.Shelf
def Tryz.xq:Go.Shelf.Ren:=⟨λ|156=>239|165=>277|166=>51|169=>55|240=>118|241=>297|276=>149|277=>307|n=>n,λ|31=>227|9=>9|3=>3|4=>4|0=>0|20=>20|72=>86|76=>89|70=>84|37=>74|75=>88|127=>167|164=>228|5=>5|80=>95|n=>n,λ|n=>n⟩
theorem Tryz.Hg:Go.Proofs.Lays.n156 Tryz.prog Tryz.xq:={
 mixed:=kqk
 f156:=Tryz.func239.trans (jqi some kqk)
 f165:=Tryz.func277.trans (jqi some kqk)
 f166:=Tryz.func51.trans (jqi some kqk)
 f169:=Tryz.func55.trans (jqi some kqk)
 f240:=Tryz.func118.trans (jqi some kqk)
 f241:=Tryz.func297.trans (jqi some kqk)
 f276:=Tryz.func149.trans (jqi some kqk)
 f277:=Tryz.func307.trans (jqi some kqk)
 t0:=Tryz.underlying0
 a0:=Tryz.isAgg0
 z0:=Tryz.sizeOf0
 v0:=Tryz.zeroValue0
 t3:=Tryz.underlying3
 a3:=Tryz.isAgg3
 z3:=Tryz.sizeOf3
 v3:=Tryz.zeroValue3
 t4:=Tryz.underlying4
 a4:=Tryz.isAgg4
 z4:=Tryz.sizeOf4
 v4:=Tryz.zeroValue4
 t9:=Tryz.underlying9
 a9:=Tryz.isAgg9
 z9:=Tryz.sizeOf9
 v9:=Tryz.zeroValue9
 t20:=Tryz.underlying20
 a20:=Tryz.isAgg20
 z20:=Tryz.sizeOf20
 v20:=Tryz.zeroValue20
 t31:=Tryz.underlying227
 a31:=Tryz.isAgg227
 z31:=Tryz.sizeOf227
 v31:=Tryz.zeroValue227
 t37:=Tryz.underlying74
 a37:=Tryz.isAgg74
 z37:=Tryz.sizeOf74
 v37:=Tryz.zeroValue74
 t70:=Tryz.underlying84
 a70:=Tryz.isAgg84
 z70:=Tryz.sizeOf84
 v70:=Tryz.zeroValue84
 t72:=Tryz.underlying86
 a72:=Tryz.isAgg86
 z72:=Tryz.sizeOf86
 v72:=Tryz.zeroValue86
 t75:=Tryz.underlying88
 a75:=Tryz.isAgg88
 z75:=Tryz.sizeOf88
 v75:=Tryz.zeroValue88
 t76:=Tryz.underlying89
 a76:=Tryz.isAgg89
 z76:=Tryz.sizeOf89
 v76:=Tryz.zeroValue89
 t127:=Tryz.underlying167
 a127:=Tryz.isAgg167
 z127:=Tryz.sizeOf167
 v127:=Tryz.zeroValue167
 t164:=Tryz.underlying228
 a164:=Tryz.isAgg228
 z164:=Tryz.sizeOf228
 v164:=Tryz.zeroValue228}
theorem Tryz.oz:Builder.Extra Tryz.prog Tryz.xq:={
 sizeBuilder:=kqk
 liesBuilder:=kqk
 t5:=Tryz.underlying5
 a5:=Tryz.isAgg5
 z5:=Tryz.sizeOf5
 v5:=Tryz.zeroValue5
 infoByte:=kqk
 cellsByte:=kqk
 sizeByte:=kqk
 neB5:=by decide}
open Go.RowKit in theorem Tryz.strings_Join_none(a:Option Addr)(c:Nat)(sep:ByteArray)(w:World):Calls Tryz.prog 239 #[.slice a 0 c,.string sep] w λe w'=>e=.returned (.string ⟨#[]⟩)/\w'=w:=Any.strings_Join_none Tryz.Hg Tryz.oz a c sep w
open Go.RowKit in theorem Tryz.strings_Join(a o c:Nat)(xs:List ByteArray)(sep:ByteArray)(w:World)(h:∀(j:Nat)x,xs[j]? =some x->w.cell? ⟨a,o+j,none⟩=some (.string x))(d:a<w.heap.size)(b:xs.length<=140737488355328)(f:xs.length<=c)(hlen:(Lib.join (xs.map (·.data.toList)) sep.data.toList).length<=140737488355328):Calls Tryz.prog 239 #[.slice (some ⟨a,o,none⟩) xs.length c,.string sep] w λe w'=>e=.returned (.string ⟨(Lib.join (xs.map (·.data.toList)) sep.data.toList).toArray⟩)/\Below w.heap.size w w':=Any.strings_Join Tryz.Hg Tryz.oz a o c xs sep w h d b f hlen
end Go.Proofs
namespace Go.Proofs.YtgdibfnpkcdiiaaGreatDoor
open Go.RowKit
namespace Ev
theorem tH{f:Nat}{fn:Func}{c:Code}(hf:Tryz.prog.funcs[f]? =some fn)(hn:(fn.name== "runtime.NumGoroutine")=false)(a:fn.body=some c)(args:Array Value)(w:World):(callFunc f args).run Tryz.prog w=.ok (.enter f args) w:=by
 have hn:fn.name≠ "runtime.NumGoroutine":=by simpa using hn
 simp[callFunc,hf,hn,a]
theorem Cr{f:Nat}{fn:Func}{e:Array Value->Sem Value}(hf:Tryz.prog.funcs[f]? =some fn)(hn:(fn.name== "runtime.NumGoroutine")=false)(a:fn.body=none)(h1:Extern.findNext fn=none)(h2:Extern.find fn=some e){args:Array Value}{v:Value}{w:World}(he:(e args).run Tryz.prog w=.ok v w):(callFunc f args).run Tryz.prog w=.ok (.value v) w:=by
 have hn:fn.name≠ "runtime.NumGoroutine":=by simpa using hn
 simp[callFunc,hf,hn,a,h1,h2,he]
theorem Kg(a b c:Value)(w:World):CallsD Tryz.prog 163 #[a,b,c] .returning w λe f w'=>e=.returned (.tuple #[])/\f=.returning/\w'=w:=by refine callsD_of_wpS Tryz.func163 rfl λd cs hu=>?_;apply wpS_seq;apply wpS_region;simp[wpOpsS,go_sem,recoverD,hu,Tryz.ntmps163,Exit.thenS];refine wpS_of_wp ?_;go_wp2_with fail;cases d;simp_all[bodyPostS,results,Tryz.results163]
theorem Ro:DkV Tryz.prog dk:=λg R nR q d w D hd h0=>by
 obtain⟨fv,first,cap,vs,h1,h2,h3,r,J,L⟩:=D;unfold dk at hd;obtain⟨o,hd⟩:Nat.beq (Nat.mod q.1 16) 10=true/\sel (Nat.beq (Nat.mod (Nat.div q.1 16) 65536) 163) (sel (Nat.beq (Nat.mod (Nat.div q.1 1048576) 256) 0) (Nat.beq (Nat.mod (Nat.div q.1 268435456) 256) 3) false) false=true:=by cases h:Nat.beq (Nat.mod q.1 16) 10 with|true=>rw[h,ak]at hd;exact⟨rfl,hd⟩|false=>rw[h]at hd;cases hd
 obtain⟨j,hd⟩:Nat.beq (Nat.mod (Nat.div q.1 16) 65536) 163=true/\sel (Nat.beq (Nat.mod (Nat.div q.1 1048576) 256) 0) (Nat.beq (Nat.mod (Nat.div q.1 268435456) 256) 3) false=true:=by cases h:Nat.beq (Nat.mod (Nat.div q.1 16) 65536) 163 with|true=>rw[h,ak]at hd;exact⟨rfl,hd⟩|false=>rw[h]at hd;cases hd
 obtain⟨k,l⟩:Nat.beq (Nat.mod (Nat.div q.1 1048576) 256) 0=true/\Nat.beq (Nat.mod (Nat.div q.1 268435456) 256) 3=true:=by cases h:Nat.beq (Nat.mod (Nat.div q.1 1048576) 256) 0 with|true=>rw[h,ak]at hd;exact⟨rfl,hd⟩|false=>rw[h]at hd;cases hd
 have o:=ai o;have j:=ai j;have k:=ai k;have l:=ai l;have t:q.1%16=10:=o;obtain⟨f,m,n,s,ws,I,F,p,u,f1,f2,f3,f4,f5,f6,f7,f8,f9,H⟩:=(h1.aP oqo oqo oqo oqo).mM t;obtain⟨v,em,x,G⟩:=Ak (s:=s) f1 f2 f3;rw[p,v]at j;rw[p,em]at k;rw[p,x]at l;subst j;subst k;subst l;injection u with y z A;subst y;subst z;subst A;rw[h0]at r;have E:vs=#[]:=by apply jxz;simpa using r.symm
 have B:first=#[]:=jxz f6;subst E;subst B;obtain⟨a,b,c,rfl⟩:∃a b c,cap=#[a,b,c]:=by
  refine⟨cap[0],cap[1],cap[2],?_⟩;apply Array.ext;·simpa using f7
  ·intro i hi C;have:i=0\/i=1\/i=2:=by simp at C;omega
   rcases this with rfl|rfl|rfl<;>rfl
 ·refine⟨.func 163,#[a,b,c],163,#[a,b,c],by rw[h3],?_,(Kg a b c w).mono λe M w'⟨k1,k2,k3⟩=>⟨_,k1,k2,by rw[k3];exact kX.refl _⟩⟩;rw[h3];simp only[invoke];exact tH Tryz.func163 rfl rfl _ _
theorem Ri:∀f h,hk f=some h->Ao Tryz.prog K0 f h:=λf h e=>by unfold hk at e;cases h1:Nat.beq f 239 with|true=>rw[h1,ak]at e;injection e with e;subst e;have h1:=ai h1;subst h1;exact Q3 (λargs w=>tH Tryz.func239 rfl rfl args w) Tryz.strings_Join_none λd o c xs i w a b a3 a4 a5=>Tryz.strings_Join d o c xs i w a b a3 a4 a5|false=>rw[h1,ah]at e;cases h2:Nat.beq f 303 with|true=>rw[h2,ak]at e;injection e with e;subst e;have h2:=ai h2;subst h2;exact RX λs c w=>Cr Tryz.func303 rfl rfl kqk kqk (Lib.run_indexByteString s c w)|false=>rw[h2,ah]at e;cases h3:Nat.beq f 319 with|true=>rw[h3,ak]at e;injection e with e;subst e;have h3:=ai h3;subst h3;exact Tq λs c w=>Cr Tryz.func319 rfl rfl kqk kqk (Lib.run_countString s c w)|false=>rw[h3]at e;cases e
theorem XD:K0.S<2^(8*K0.n):=Nat.le_of_ble_eq_true kqk
theorem Ww(K:Kon)(a:K.S<2^(8*K.n))(w:World):HR K.gh ⟨0,[(0,[])],0,0,0,0,K.S,K.n⟩ w:=by have free:∀s,K.gh.rho s=.free:=λs=>rfl;exact⟨rfl,rfl,a,Nat.one_pos,Nat.one_pos,λs h=>absurd (free s) h,λs s' _ h=>absurd (free s) h,λs blk base z room h=>(by rw[free s]at h;cases h),λs ws h=>(by rw[free s]at h;cases h),λs blk h=>(by rw[free s]at h;cases h),λs s' blk base z room base' z' room' _ h=>(by rw[free s]at h;cases h),λs s' blk h=>(by rw[free s]at h;cases h)⟩
theorem hr0(w:World):HR K0.gh ⟨0,[(0,[])],0,0,0,0,K0.S,K0.n⟩ w:=Ww K0 XD w
end Ev
namespace Ev
theorem wX{b c:Bool}(h:sel b c false=true):b=true/\c=true:=by cases b with|true=>exact⟨rfl,h⟩|false=>cases h
end Ev
namespace Ev
def okF(X:Nat->Nat->Option cZ)(f:Nat):Bool:=match Tryz.prog.funcs[f]? with
 |some fn=>match fn.body with|some c=>okX Tryz.prog K0 (X f) fn.ntmps c|none=>true
 |none=>true
theorem QB(P:Program)(K:Kon)(n:Nat):∀c:Code,okX P K (λ_=>none) n c=true:=λc=>by induction c with|region id ops d=>cases d<;>rfl|seq a b ha e=>show(okX P K _ n a&&okX P K _ n b)=true;rw[ha,e];rfl|cond _ a b ha e=>show(okX P K _ n a&&okX P K _ n b)=true;rw[ha,e];rfl|block _ b e=>exact e|loop b e=>exact e|_=>rfl
def x24(i:Nat):Option cZ:=sel (Nat.beq i 7) (some ⟨none,[0,1,2,3,4,5],[0,1,2,3,4,5],[⟨6,[],[4,3,2,1,0],[5]⟩,⟨7,[],[4,3,2,1,0],[6,5]⟩,⟨8,[9,10],[10,9,0],[7,6,5,4,3,2,1]⟩,⟨11,[],[],[10,9,8,7,6,5,4,3,2,1,0]⟩]⟩) (none)
def x29(i:Nat):Option cZ:=sel (Nat.beq i 6) (some ⟨none,[0,1,2,3,4,5,6,7,8],[0,1,2,3,4,5,6,7,8],[]⟩) (none)
def x33(i:Nat):Option cZ:=sel (Nat.beq i 8) (some ⟨none,[0,1,2,3,4,5,6,7,8,9,10],[0,1,2,3,4,5,6,7,8,9,10],[⟨11,[],[10,9,8,7,6,5,4,3,2,1,0],[]⟩,⟨12,[],[],[11,10,9,8,7,6,5,4,3,2,1,0]⟩]⟩) (sel (Nat.beq i 10) (some ⟨none,[0,1,2,3,4,5,6,7,8,9],[0,1,2,3,4,5,6,7,8,9],[⟨10,[],[],[9,8,7,6,5,4,3,2,1,0]⟩]⟩) (none))
def x61(i:Nat):Option cZ:=sel (Nat.beq i 6) (some ⟨none,[0,1,2,3,4,5,6,7,8],[0,1,2,3,4,5,6,7,8],[]⟩) (none)
def x67(i:Nat):Option cZ:=sel (Nat.beq i 1) (some ⟨none,[0,1,3,4],[0,1,3,4],[⟨2,[6],[6,4,3],[1,0]⟩,⟨5,[],[6],[4,3,2,1,0]⟩,⟨7,[8],[8],[6,5,4,3,2,1,0]⟩,⟨9,[],[],[8,7,6,5,4,3,2,1,0]⟩]⟩) (none)
def x69(i:Nat):Option cZ:=sel (Nat.beq i 3) (some ⟨none,[0,1,2,3,4,5,6,7],[0,1,2,3,4,5,6,7],[⟨8,[],[],[7,6,5,4,3,2,1,0]⟩]⟩) (none)
def x71(i:Nat):Option cZ:=sel (Nat.beq i 1) (some ⟨none,[0,1,2,3,4,5,6,7,8],[0,1,2,3,4,5,6,7,8],[⟨9,[],[],[8,7,6,5,4,3,2,1,0]⟩]⟩) (none)
def x73(i:Nat):Option cZ:=sel (Nat.beq i 1) (some ⟨none,[0,1,2,3,4,5,6,7,8],[0,1,2,3,4,5,6,7,8],[⟨9,[],[],[8,7,6,5,4,3,2,1,0]⟩]⟩) (none)
def x74(i:Nat):Option cZ:=sel (Nat.beq i 1) (some ⟨none,[0,1,2,3,4,5,6,7,8,9,10,11,12,13,14],[0,1,2,3,4,5,6,7,8,9,10,11,12,13,14],[⟨15,[16],[16,2,1,0],[14,13,12,11,10,9,8,7,6,5,4,3]⟩,⟨17,[],[],[16,15,14,13,12,11,10,9,8,7,6,5,4,3,2,1,0]⟩]⟩) (none)
def x77(i:Nat):Option cZ:=sel (Nat.beq i 1) (some ⟨none,[0,1,2,3,4,5,6,7],[0,1,2,3,4,5,6,7],[⟨8,[],[],[7,6,5,4,3,2,1,0]⟩]⟩) (none)
def x83(i:Nat):Option cZ:=sel (Nat.beq i 4) (some ⟨none,[0,1,2,7,8,9,10,11,12],[0,1,2,7,8,9,10,11,12],[⟨3,[4,5,6,13],[13,6,5,4,12,11,10,9,8,7],[2,1,0]⟩,⟨14,[],[],[13,12,11,10,9,8,7,6,5,4,3,2,1,0]⟩]⟩) (none)
def x84(i:Nat):Option cZ:=sel (Nat.beq i 1) (some ⟨none,[0,1,2,4,5],[0,1,2,4,5],[⟨3,[6,7],[7,6,5,4],[2,1,0]⟩,⟨8,[],[],[7,6,5,4,3,2,1,0]⟩]⟩) (none)
def Xf(i:Nat):Option cZ:=sel (Nat.beq i 15) (some ⟨none,[0,1,2,3,4,5,6,7,8,9,10,11,12,13,14,15],[0,1,2,3,4,5,6,7,8,9,10,11,12,13,14,15],[]⟩) (sel (Nat.beq i 17) (some ⟨none,[0,1,2,3,4,5,6,7,8,9,10,11,12,13,14,15,16,17],[0,1,2,3,4,5,6,7,8,9,10,11,12,13,14,15,16,17],[⟨18,[],[1,0],[17,16,15,14,13,12,11,10,9,8,7,6,5,4,3,2]⟩,⟨19,[20],[20],[18,17,16,15,14,13,12,11,10,9,8,7,6,5,4,3,2,1,0]⟩,⟨21,[],[],[20,19,18,17,16,15,14,13,12,11,10,9,8,7,6,5,4,3,2,1,0]⟩]⟩) (none))
def Xb(i:Nat):Option cZ:=sel (Nat.beq i 1) (some ⟨none,[0,1,2,3,4],[0,1,2,3,4],[⟨5,[],[3,2,1,0],[4]⟩,⟨6,[7],[7,0],[5,4,3,2,1]⟩,⟨8,[],[],[7,6,5,4,3,2,1,0]⟩]⟩) (none)
def Xg(i:Nat):Option cZ:=sel (Nat.beq i 3) (some ⟨(some 2),[0,3,4,5],[0,3,4,5],[⟨1,[],[5,4,3],[0]⟩,⟨2,[],[5,4,3],[]⟩,⟨6,[7,8],[8,7],[5,4,3,2,1,0]⟩,⟨9,[],[],[8,7,6,5,4,3,2,1,0]⟩,⟨10,[],[],[9,8,7,6,5,4,3,2,1,0]⟩]⟩) (sel (Nat.beq i 8) (some ⟨none,[0,1,2,3,4,5],[0,1,2,3,4,5],[⟨6,[],[5,4,3,2,1],[0]⟩,⟨7,[],[5],[6,4,3,2,1,0]⟩,⟨8,[],[],[7,6,5,4,3,2,1,0]⟩]⟩) (none))
def XH(i:Nat):Option cZ:=sel (Nat.beq i 2) (some ⟨none,[0,1,2,3,4,5,6,7,8],[0,1,2,3,4,5,6,7,8],[⟨9,[],[4,3,2,1,0],[8,7,6,5]⟩,⟨10,[11,12],[12,11,0],[9,8,7,6,5,4,3,2,1]⟩,⟨13,[],[],[12,11,10,9,8,7,6,5,4,3,2,1,0]⟩]⟩) (none)
def W9(i:Nat):Option cZ:=sel (Nat.beq i 5) (some ⟨none,[0,1,2,3,4,5,6,7,8],[0,1,2,3,4,5,6,7,8],[⟨9,[10,11],[11,10,2,1,0],[8,7,6,5,4,3]⟩,⟨12,[],[],[11,10,9,8,7,6,5,4,3,2,1,0]⟩]⟩) (none)
def Xw(i:Nat):Option cZ:=sel (Nat.beq i 9) (some ⟨none,[0,1,2,3,4,5,6],[0,1,2,3,4,5,6],[⟨7,[8],[8,0],[6,5,4,3,2,1]⟩,⟨9,[],[],[8,7,6,5,4,3,2,1,0]⟩]⟩) (none)
def Xn(i:Nat):Option cZ:=sel (Nat.beq i 9) (some ⟨none,[0,1,2,3,4,5,6,7,8,9,10,11,12,13,14,15,16,17,18,19,20,21],[0,1,2,3,4,5,6,7,8,9,10,11,12,13,14,15,16,17,18,19,20,21],[]⟩) (sel (Nat.beq i 15) (some ⟨none,[0,1,2,3,4,5,6,7,8,9,10,11],[0,1,2,3,4,5,6,7,8,9,10,11],[⟨12,[],[],[11,10,9,8,7,6,5,4,3,2,1,0]⟩,⟨13,[],[],[12,11,10,9,8,7,6,5,4,3,2,1,0]⟩]⟩) (sel (Nat.beq i 18) (some ⟨none,[0,1,2,3,4,5,6,7,8,9,10,11],[0,1,2,3,4,5,6,7,8,9,10,11],[⟨12,[],[],[11,10,9,8,7,6,5,4,3,2,1,0]⟩]⟩) (none)))
def Xe(i:Nat):Option cZ:=sel (Nat.beq i 17) (some ⟨none,[0,1,2,3,4,5,6,7,8,9,10,11,12,13,14,15,16,17,18,19,20,21],[0,1,2,3,4,5,6,7,8,9,10,11,12,13,14,15,16,17,18,19,20,21],[⟨22,[],[0],[21,20,19,18,17,16,15,14,13,12,11,10,9,8,7,6,5,4,3,2,1]⟩,⟨23,[],[],[22,21,20,19,18,17,16,15,14,13,12,11,10,9,8,7,6,5,4,3,2,1,0]⟩]⟩) (sel (Nat.beq i 30) (some ⟨none,[0,1,2,3,4,5,6,7,8,9,10,11,12,13,14,15,16,17,18,19],[0,1,2,3,4,5,6,7,8,9,10,11,12,13,14,15,16,17,18,19],[⟨20,[],[19,18,17,16,15,14,13,12,11,10,9,8,7,6,5,4,3,2,1,0],[]⟩,⟨21,[],[],[20,19,18,17,16,15,14,13,12,11,10,9,8,7,6,5,4,3,2,1,0]⟩]⟩) (sel (Nat.beq i 34) (some ⟨none,[0,1,2,3],[0,1,2,3],[⟨4,[],[1,0],[3,2]⟩,⟨5,[],[1,0],[4,3,2]⟩,⟨6,[7],[7],[5,4,3,2,1,0]⟩,⟨8,[],[],[7,6,5,4,3,2,1,0]⟩]⟩) (none)))
def XK(i:Nat):Option cZ:=sel (Nat.beq i 2) (some ⟨none,[0,1,2,3,4,5,6,7,8,9,10,11],[0,1,2,3,4,5,6,7,8,9,10,11],[⟨12,[],[],[11,10,9,8,7,6,5,4,3,2,1,0]⟩]⟩) (sel (Nat.beq i 3) (some ⟨none,[0,1,2,3,4,5,6,7,8,9],[0,1,2,3,4,5,6,7,8,9],[⟨10,[],[],[9,8,7,6,5,4,3,2,1,0]⟩]⟩) (none))
def Xh(i:Nat):Option cZ:=sel (Nat.beq i 3) (some ⟨none,[0,1,2,3,4,5,6,7,8,9,10,11,12],[0,1,2,3,4,5,6,7,8,9,10,11,12],[⟨13,[],[],[12,11,10,9,8,7,6,5,4,3,2,1,0]⟩]⟩) (sel (Nat.beq i 5) (some ⟨none,[0,1,2,3,4,5,6,7,8,9,10],[0,1,2,3,4,5,6,7,8,9,10],[⟨11,[],[5,4,3,2,1,0],[10,9,8,7,6]⟩,⟨12,[13,14,15],[15,14,13,0],[11,10,9,8,7,6,5,4,3,2,1]⟩,⟨16,[],[],[15,14,13,12,11,10,9,8,7,6,5,4,3,2,1,0]⟩]⟩) (sel (Nat.beq i 6) (some ⟨none,[0,1,2,4,5,6,7,8,9,10,11,12],[0,1,2,4,5,6,7,8,9,10,11,12],[⟨3,[13,14,15,16,17,18,19,20,21,22],[22,21,20,19,18,17,16,15,14,13,12,11,10,9,8,7,6,5,4],[2,1,0]⟩,⟨23,[],[],[22,21,20,19,18,17,16,15,14,13,12,11,10,9,8,7,6,5,4,3,2,1,0]⟩,⟨24,[],[],[23,22,21,20,19,18,17,16,15,14,13,12,11,10,9,8,7,6,5,4,3,2,1,0]⟩,⟨25,[],[],[24,23,22,21,20,19,18,17,16,15,14,13,12,11,10,9,8,7,6,5,4,3,2,1,0]⟩,⟨26,[],[],[25,24,23,22,21,20,19,18,17,16,15,14,13,12,11,10,9,8,7,6,5,4,3,2,1,0]⟩]⟩) (sel (Nat.beq i 7) (some ⟨none,[0,1,2,3,4,5,6,7,8,9,10,11,12],[0,1,2,3,4,5,6,7,8,9,10,11,12],[⟨13,[],[],[12,11,10,9,8,7,6,5,4,3,2,1,0]⟩]⟩) (sel (Nat.beq i 10) (some ⟨none,[0,1,2,3,4,5,6,7,8,9,10],[0,1,2,3,4,5,6,7,8,9,10],[⟨11,[],[5,4,3,2,1,0],[10,9,8,7,6]⟩,⟨12,[13,14,15],[15,14,13,0],[11,10,9,8,7,6,5,4,3,2,1]⟩,⟨16,[],[],[15,14,13,12,11,10,9,8,7,6,5,4,3,2,1,0]⟩]⟩) (sel (Nat.beq i 11) (some ⟨none,[0,1,2,4,5,6,7,8,9,10,11,12],[0,1,2,4,5,6,7,8,9,10,11,12],[⟨3,[13,14,15,16,17,18,19,20,21,22],[22,21,20,19,18,17,16,15,14,13,12,11,10,9,8,7,6,5,4],[2,1,0]⟩,⟨23,[],[],[22,21,20,19,18,17,16,15,14,13,12,11,10,9,8,7,6,5,4,3,2,1,0]⟩,⟨24,[],[],[23,22,21,20,19,18,17,16,15,14,13,12,11,10,9,8,7,6,5,4,3,2,1,0]⟩,⟨25,[],[],[24,23,22,21,20,19,18,17,16,15,14,13,12,11,10,9,8,7,6,5,4,3,2,1,0]⟩,⟨26,[],[],[25,24,23,22,21,20,19,18,17,16,15,14,13,12,11,10,9,8,7,6,5,4,3,2,1,0]⟩]⟩) (none))))))
def Xu(i:Nat):Option cZ:=sel (Nat.beq i 19) (some ⟨none,[0,1,2,3,4,5,6,7,8],[0,1,2,3,4,5,6,7,8],[⟨9,[],[3,2,1,0],[8,7,6,5,4]⟩,⟨10,[],[],[9,8,7,6,5,4,3,2,1,0]⟩,⟨11,[],[],[10,9,8,7,6,5,4,3,2,1,0]⟩]⟩) (none)
def WW(i:Nat):Option cZ:=sel (Nat.beq i 6) (some ⟨none,[0,1,2,3,4,5,6,7,8,9,10],[0,1,2,3,4,5,6,7,8,9,10],[]⟩) (sel (Nat.beq i 9) (some ⟨none,[0,1,2,3,4,5,6,7,8,9,10],[0,1,2,3,4,5,6,7,8,9,10],[]⟩) (none))
def Xj(i:Nat):Option cZ:=sel (Nat.beq i 52) (some ⟨none,[0,1,2,3,4,5,6,7,8,9,10,11,12,13,14],[0,1,2,3,4,5,6,7,8,9,10,11,12,13,14],[⟨15,[],[0],[14,13,12,11,10,9,8,7,6,5,4,3,2,1]⟩,⟨16,[],[],[15,14,13,12,11,10,9,8,7,6,5,4,3,2,1,0]⟩]⟩) (none)
def Xp(i:Nat):Option cZ:=sel (Nat.beq i 0) (some ⟨none,[0,1,2,3,4,5,6,7,8,9,10,11],[0,1,2,3,4,5,6,7,8,9,10,11],[⟨12,[],[],[11,10,9,8,7,6,5,4,3,2,1,0]⟩]⟩) (none)
def WY(i:Nat):Option cZ:=sel (Nat.beq i 3) (some ⟨none,[0,1,2,3,4,5,6,7,8,9,10],[0,1,2,3,4,5,6,7,8,9,10],[⟨11,[],[],[10,9,8,7,6,5,4,3,2,1,0]⟩]⟩) (sel (Nat.beq i 4) (some ⟨none,[0,1,2,3,4,5,6,7,8,9,10],[0,1,2,3,4,5,6,7,8,9,10],[⟨11,[],[4,3,2,1,0],[10,9,8,7,6,5]⟩,⟨12,[13,14],[14,13,0],[11,10,9,8,7,6,5,4,3,2,1]⟩,⟨15,[],[],[14,13,12,11,10,9,8,7,6,5,4,3,2,1,0]⟩]⟩) (none))
def XN(i:Nat):Option cZ:=sel (Nat.beq i 7) (some ⟨none,[0,1,2],[0,1,2],[⟨3,[4,5,6],[6,5,4,1,0],[2]⟩,⟨7,[8,9,10],[10,9,8,1],[6,5,4,3,2,0]⟩,⟨11,[],[],[10,9,8,7,6,5,4,3,2,1,0]⟩]⟩) (none)
def X0(f i:Nat):Option cZ:=sel (Nat.beq f 24) (x24 i) (sel (Nat.beq f 29) (x29 i) (sel (Nat.beq f 33) (x33 i) (sel (Nat.beq f 61) (x61 i) (sel (Nat.beq f 67) (x67 i) (sel (Nat.beq f 69) (x69 i) (sel (Nat.beq f 71) (x71 i) (sel (Nat.beq f 73) (x73 i) (sel (Nat.beq f 74) (x74 i) (sel (Nat.beq f 77) (x77 i) (sel (Nat.beq f 83) (x83 i) (sel (Nat.beq f 84) (x84 i) (sel (Nat.beq f 106) (Xf i) (sel (Nat.beq f 122) (Xb i) (sel (Nat.beq f 144) (Xg i) (sel (Nat.beq f 170) (XH i) (sel (Nat.beq f 172) (W9 i) (sel (Nat.beq f 173) (Xw i) (sel (Nat.beq f 174) (Xn i) (sel (Nat.beq f 176) (Xe i) (sel (Nat.beq f 177) (XK i) (sel (Nat.beq f 205) (Xh i) (sel (Nat.beq f 212) (Xu i) (sel (Nat.beq f 237) (WW i) (sel (Nat.beq f 238) (Xj i) (sel (Nat.beq f 256) (Xp i) (sel (Nat.beq f 282) (WY i) (sel (Nat.beq f 316) (XN i) (none))))))))))))))))))))))))))))
theorem WX:okF X0 24=true:=kqk
theorem Xi:okF X0 29=true:=kqk
theorem WU:okF X0 33=true:=kqk
theorem Xx:okF X0 61=true:=kqk
theorem XC:okF X0 67=true:=kqk
theorem XB:okF X0 69=true:=kqk
theorem XA:okF X0 71=true:=kqk
theorem Xr:okF X0 73=true:=kqk
theorem WZ:okF X0 74=true:=kqk
theorem XM:okF X0 77=true:=kqk
theorem Xy:okF X0 83=true:=kqk
theorem XL:okF X0 84=true:=kqk
theorem VV:okF X0 106=true:=kqk
theorem Wm:okF X0 122=true:=kqk
theorem VP:okF X0 144=true:=kqk
theorem Wi:okF X0 170=true:=kqk
theorem VT:okF X0 172=true:=kqk
theorem Wz:okF X0 173=true:=kqk
theorem WO:okF X0 174=true:=kqk
theorem Wo:okF X0 176=true:=kqk
theorem WB:okF X0 177=true:=kqk
theorem WM:okF X0 205=true:=kqk
theorem VQ:okF X0 212=true:=kqk
theorem WA:okF X0 237=true:=kqk
theorem WL:okF X0 238=true:=kqk
theorem WS:okF X0 256=true:=kqk
theorem VY:okF X0 282=true:=kqk
theorem Wj:okF X0 316=true:=kqk
theorem Rc:∀f fn c,Tryz.prog.funcs[f]? =some fn->fn.body=some c->okX Tryz.prog K0 (X0 f) fn.ntmps c=true:=λf fn c hf L=>by
 have use:okF X0 f=true->okX Tryz.prog K0 (X0 f) fn.ntmps c=true:=λh=>by unfold okF at h;rw[hf]at h;dsimp only at h;rw[L]at h;exact h
 by_cases u:f=24;·subst u;exact use WX
 by_cases y:f=29;·subst y;exact use Xi
 by_cases A:f=33;·subst A;exact use WU
 by_cases B:f=61;·subst B;exact use Xx
 by_cases C:f=67;·subst C;exact use XC
 by_cases D:f=69;·subst D;exact use XB
 by_cases E:f=71;·subst E;exact use XA
 by_cases F:f=73;·subst F;exact use Xr
 by_cases G:f=74;·subst G;exact use WZ
 by_cases H:f=77;·subst H;exact use XM
 by_cases I:f=83;·subst I;exact use Xy
 by_cases J:f=84;·subst J;exact use XL
 by_cases b:f=106;·subst b;exact use VV
 by_cases d:f=122;·subst d;exact use Wm
 by_cases e:f=144;·subst e;exact use VP
 by_cases j:f=170;·subst j;exact use Wi
 by_cases l:f=172;·subst l;exact use VT
 by_cases m:f=173;·subst m;exact use Wz
 by_cases n:f=174;·subst n;exact use WO
 by_cases o:f=176;·subst o;exact use Wo
 by_cases p:f=177;·subst p;exact use WB
 by_cases q:f=205;·subst q;exact use WM
 by_cases r:f=212;·subst r;exact use VQ
 by_cases s:f=237;·subst s;exact use WA
 by_cases t:f=238;·subst t;exact use WL
 by_cases v:f=256;·subst v;exact use WS
 by_cases x:f=282;·subst x;exact use VY
 by_cases z:f=316;·subst z;exact use Wj
 have h:X0 f=λ_=>none:=by
  funext i;unfold X0;have a:∀k,f≠k->Nat.beq f k=false:=λk hk=>by cases h:Nat.beq f k with|true=>exact absurd (ai h) hk|false=>rfl
  rw[a 24 u,ah];rw[a 29 y,ah];rw[a 33 A,ah];rw[a 61 B,ah];rw[a 67 C,ah];rw[a 69 D,ah];rw[a 71 E,ah];rw[a 73 F,ah];rw[a 74 G,ah];rw[a 77 H,ah];rw[a 83 I,ah];rw[a 84 J,ah];rw[a 106 b,ah];rw[a 122 d,ah];rw[a 144 e,ah];rw[a 170 j,ah];rw[a 172 l,ah];rw[a 173 m,ah];rw[a 174 n,ah];rw[a 176 o,ah];rw[a 177 p,ah];rw[a 205 q,ah];rw[a 212 r,ah];rw[a 237 s,ah];rw[a 238 t,ah];rw[a 256 v,ah];rw[a 282 x,ah];rw[a 316 z,ah]
 rw[h];exact QB _ _ _ _
end Ev
namespace Ev
def kOf(n:Nat):IntKind:=match n with|0=>.i8|1=>.i16|2=>.i32|3=>.i64|4=>.u8|5=>.u16|6=>.u32|_=>.u64
theorem UE(k:IntKind):kOf (kc k)=k:=by cases k<;>rfl
def Ju(S w:Nat):Option Value:=if w%16=3 then some (.string (strOf S (sa w) (ln w)))else if w%16=1 then some (.bool (Nat.beq w 17))else if w%16=2 then some (.int (kOf (w/16%16)) ((w/256:Nat)-9223372036854775808))else none
def D5(S R s:Nat):Nat->Option (List Value)|0=>some []|k+1=>match D5 S R s k,Ju S (gt R (s+k))with|some l,some v=>some (l++[v])|_,_=>none
def JW(S R x:Nat):Option Value:=if x%16=12 then(D5 S R (sa x) (ln x)).map λl=>.agg l.toArray else Ju S x
def zN(S R s:Nat):Nat->Option (List Value)|0=>some []|k+1=>match zN S R s k,JW S R (gt R (s+k))with|some l,some v=>some (l++[v])|_,_=>none
def Qe(S R x:Nat):Option Value:=if x%16=13 then(zN S R (sa x) (ln x)).map λl=>.tuple l.toArray else JW S R x
theorem Ht{g:Gh}{S R nR w:Nat}{v u:Value}(h:TR g R nR w v)(hS:S=g.S)(e:Ju S w=some u):v=u:=by
 unfold Ju at e;split at e
 ·rename_i h3;obtain⟨s,l,a,c,i,j,m⟩:=(h.aP oqo oqo oqo (by intro hw;subst hw;cases h3)).rY h3;injection e with e;have d:sa w=s:=by rw[a];show dC s l/268435456=s;unfold dC;omega
  have f:ln w=l:=by rw[a];show dC s l/16%16777216=l;unfold dC;omega
  rw[c,<-e,d,f,hS]
 split at e;·rename_i h1;obtain⟨b,a,c⟩:=(h.aP oqo oqo oqo (by intro hw;subst hw;cases h1)).gL h1;injection e with e;rw[c,<-e,a];cases b<;>rfl
 ·split at e
  ·rename_i h2;obtain⟨k,n,a,c,i,j⟩:=(h.aP oqo oqo oqo (by intro hw;subst hw;cases h2)).jf h2;injection e with e;have hk:=iY k;have d:w/16%16=kc k:=by rw[a];unfold aC;omega
   have f:((w/256:Nat):Int)-9223372036854775808=n:=by rw[a];unfold aC;omega
   rw[c,<-e,d,f,UE]
  ·cases e
theorem Hq{g:Gh}{S R nR s:Nat}{vs:Array Value}(hS:S=g.S):∀{k:Nat}{l:List Value},(∀i,i<k->VR g (gt R (s+i)) (vs.getD i undef))->D5 S R s k=some l->l.length=k/\∀i,i<k->vs.getD i undef=l.getD i undef
 |0,l,_,e=>by injection e with e;subst e;exact⟨rfl,λi hi=>absurd hi oqo⟩|k+1,l,h,e=>by
  unfold D5 at e;split at e
  ·rename_i c v0 h1 h2;injection e with e;subst e;obtain⟨a,b⟩:=Hq (k:=k) (nR:=nR) hS (λi hi=>h i oqo) h1;refine⟨by simp[a],λi hi=>?_⟩;by_cases hk:i<k;·rw[b i hk];simp[qqm,List.getElem?_append,a,hk]
   ·have:i=k:=by omega
    subst this;rw[Ht (R:=R) (nR:=nR) (.cell _ _ (h i oqo)) hS h2];simp[qqm,a]
  ·cases e
theorem KT{vs:Array Value}{l:List Value}(h:vs.size=l.length)(k:∀i,i<l.length->vs.getD i undef=l.getD i undef):vs=l.toArray:=by
 apply Array.ext;·simpa using h
 ·intro i h1 h2;have:=k i oqo;simpa [qqg,qqm,h1,show i<l.length by omega]using this
theorem Ii{g:Gh}{S R nR x:Nat}{v u:Value}(h:TR g R nR x v)(hS:S=g.S)(e:JW S R x=some u):v=u:=by
 unfold JW at e;split at e;·rename_i h1;obtain⟨vs,b1,b2,c,d,f,j,a⟩:=h.agg' h1;cases hl:D5 S R (sa x) (ln x)with|none=>rw[hl]at e;cases e|some l=>rw[hl]at e;injection e with e;obtain⟨k,b⟩:=Hq (nR:=nR) hS a hl;rw[b2,<-e,KT oqo λi hi=>b i oqo]
 ·exact Ht h hS e
theorem FI{g:Gh}{S R nR s:Nat}{vs:Array Value}(hS:S=g.S):∀{k:Nat}{l:List Value},(∀i,i<k->TR g R nR (gt R (s+i)) (vs.getD i undef))->zN S R s k=some l->l.length=k/\∀i,i<k->vs.getD i undef=l.getD i undef
 |0,l,_,e=>by injection e with e;subst e;exact⟨rfl,λi hi=>absurd hi oqo⟩|k+1,l,h,e=>by
  unfold zN at e;split at e
  ·rename_i c v0 h1 h2;injection e with e;subst e;obtain⟨a,b⟩:=FI (k:=k) hS (λi hi=>h i oqo) h1;refine⟨by simp[a],λi hi=>?_⟩;by_cases hk:i<k;·rw[b i hk];simp[qqm,List.getElem?_append,a,hk]
   ·have:i=k:=by omega
    subst this;rw[Ii (h i oqo) hS h2];simp[qqm,a]
  ·cases e
theorem Ua{g:Gh}{S R nR x:Nat}{v u:Value}(h:TR g R nR x v)(hS:S=g.S)(e:Qe S R x=some u):v=u:=by
 unfold Qe at e;split at e
 ·rename_i h1;obtain⟨b,a,vs,b1,b2,k,m,n,o,c⟩:=h.rV h1;have d:ln x=a:=by rw[b1];unfold ln eZ;show(13+16*a+268435456*b)/16%16777216=a;omega
  have f:sa x=b:=by rw[b1];unfold sa eZ;show(13+16*a+268435456*b)/268435456=b;omega
  rw[d,f]at e;cases hl:zN S R b a with|none=>rw[hl]at e;cases e|some l=>rw[hl]at e;injection e with e;obtain⟨p,j⟩:=FI hS c hl;rw[b2,<-e,KT oqo λi hi=>j i oqo]
 ·exact Ii h hS e
def tu:Value->Nat| .bool b=>if b=true then 17 else 1| .int k n=>aC k n|_=>0
def uy:Value->Bool| .bool _=>true| .int _ n=>decide (-9223372036854775808<=n)&&decide (n<18446744073709551616)|_=>false
theorem Il{g:Gh}{v:Value}(h:uy v=true):VR g (tu v) v:=by cases v with
 |bool b=>cases b with|true=>exact VR.bool true|false=>exact VR.bool false
 |int k n=>simp only[uy,qqn,qqu]at h;exact .int k n h.1 h.2|_=>cases h
def eqC:Value->Value->Bool| .bool a,.bool b=>a==b| .int k n,.int j m=>decide (k=j)&&decide (n=m)| .string a,.string b=>decide (a.data=b.data)|_,_=>false
theorem LA{a b:Value}(h:eqC a b=true):a=b:=by
 unfold eqC at h;split at h;·rw[eq_of_beq h]
 ·simp only[qqn,qqu]at h;rw[h.1,h.2]
 ·rename_i a b;rw[show a=b by cases a;cases b;simpa using h]
 ·cases h
def eqL(f:Value->Value->Bool):List Value->List Value->Bool|[],[]=>true|a::l,b::m=>f a b&&eqL f l m|_,_=>false
theorem D6{f:Value->Value->Bool}(hf:∀{a b},f a b=true->a=b):∀{l m:List Value},eqL f l m=true->l=m|[],[],_=>rfl|a::l,b::m,h=>by have h:(f a b&&eqL f l m)=true:=h;simp only[qqn]at h;rw[hf h.1,D6 hf h.2]|[],_::_,h=>nomatch h|_::_,[],h=>nomatch h
def eqA:Value->Value->Bool| .agg a,.agg b=>eqL eqC a.toList b.toList|a,b=>eqC a b
theorem Ng{a b:Value}(h:eqA a b=true):a=b:=by
 unfold eqA at h;split at h;·rename_i x y;have:=D6 LA h;rw[show x=y from Array.toList_inj.1 this]
 ·exact LA h
def eqT:Value->Value->Bool| .tuple a,.tuple b=>eqL eqA a.toList b.toList|a,b=>eqA a b
theorem Vv{a b:Value}(h:eqT a b=true):a=b:=by
 unfold eqT at h;split at h;·rename_i x y;have:=D6 Ng h;rw[show x=y from Array.toList_inj.1 this]
 ·exact Ng h
def told(r:RS):Option Value:=RS.rec none (λx s=>Qe s.S s.R x) r
theorem Tp{f:Nat}{fn:Func}{c:Code}(l:List Value){v:Value}(d:l.all uy=true)(hf:Tryz.prog.funcs[f]? =some fn)(hn:(fn.name== "runtime.NumGoroutine")=false)(n:fn.body=some c)(hm:Tryz.prog.follows .mixedOrders=true)(h:told (jO Tryz.prog K0 X0 hk dk 1000000 1000 f ⟨dV (l.map tu),[(l.length,[])],0,0,0,0,K0.S,K0.n⟩)=some v)(w:World):Calls Tryz.prog f l.toArray w λe w'=>e=.returned v/\Below w.heap.size w w':=by cases hr:jO Tryz.prog K0 X0 hk dk 1000000 1000 f ⟨dV (l.map tu),[(l.length,[])],0,0,0,0,K0.S,K0.n⟩with|no=>rw[hr]at h;cases h|ok x st'=>
  rw[hr]at h;rw[qqw]at d;have j:∀w∈l.map tu,w<2^128:=λw hw=>by obtain⟨u,hu,rfl⟩:=qjb.1 hw;exact(Il (g:=K0.gh) (d u hu)).lt
  have o:HR K0.gh ⟨dV (l.map tu),[(l.length,[])],0,0,0,0,K0.S,K0.n⟩ w:=(hr0 w).frame _ _ (R:=0) (nR:=0) Nat.one_pos;have hv:=yh (fuel:=1000000) Rc hm Ri Ro 1000 f K0.gh _ w l.toArray x st' ⟨qqf _,λ_ _=>rfl⟩ o (by simp) (λi=>by
   rw[gy _ i j];by_cases hi:i<l.length
   ·have b:(l.map tu).getD i 0=tu l[i]:=by simp[qqm,hi]
    have m:l.toArray.getD i undef=l[i]:=by simp[qqg,hi]
    rw[b,m];exact .cell _ _ (Il (d _ (List.getElem_mem hi)))
   ·have b:(l.map tu).getD i 0=0:=by simp[qqm,hi]
    rw[b];exact .unk _) (λi hi=>by
   rw[gy _ i j];have hi:l.length<=i:=by simpa using hi
   simp[qqm,show¬i<l.length by omega]) hr;rcases hv with⟨_,hv⟩|⟨v,w',hv,_⟩
  ·refine hv.mono λe w'⟨u,b,g',a⟩=>?_;have p:∀k,¬Own K0.gh k:=λk hk=>by
    rcases hk with⟨s,base,z,room,hs⟩|⟨s,hs⟩;·cases hs
    ·cases hs
   exact⟨by rw[b,Ua a.tr a.hr.S h],a.fr.os,a.fr.tape,a.fr.output,a.fr.size,λk hk=>a.fr.keep k hk (p k)⟩
  ·rw[tH hf hn n]at hv;cases hv
def tells(f:Nat)(l:List Value)(v:Value):Bool:=match told (jO Tryz.prog K0 X0 hk dk 1000000 1000 f ⟨dV (l.map tu),[(l.length,[])],0,0,0,0,K0.S,K0.n⟩)with|some u=>eqT u v|none=>false
theorem QC{f:Nat}{fn:Func}{c:Code}(l:List Value){v:Value}(b:l.all uy=true)(hf:Tryz.prog.funcs[f]? =some fn)(hn:(fn.name== "runtime.NumGoroutine")=false)(a:fn.body=some c)(hm:Tryz.prog.follows .mixedOrders=true)(h:tells f l v=true)(w:World):Calls Tryz.prog f l.toArray w λe w'=>e=.returned v/\Below w.heap.size w w':=by
 unfold tells at h;split at h;·rename_i u hu;rw[<-Vv h];exact Tp l b hf hn a hm hu w
 ·cases h
def Be(f:Nat->Bool)(a:Nat):Nat->Bool:=λn=>Nat.rec true (λn ih=>sel (f (Nat.add a n)) ih false) n
theorem rU{f:Nat->Bool}{a:Nat}:∀{n:Nat},Be f a n=true->∀i,a<=i->i<a+n->f i=true
 |0,_,i,h1,h2=>absurd h2 oqo|n+1,h,i,h1,h2=>by
  have h:sel (f (a+n)) (Be f a n) false=true:=h;obtain⟨h3,b⟩:=wX h;by_cases hi:i=a+n;·rw[hi];exact h3
  ·exact rU b i h1 oqo
end Ev
def vU(o:Nat):Value:=.agg #[.bool (eU o),.bool (fe o),.bool (hasB o),.bool (vJ o),.bool (mK o),.bool (mD o),.bool (mD o),.bool (sG o),.bool (iG o)]
def uW(o:Nat):Bool:=decide (1<=o/\o<=14)
theorem mixed:Tryz.prog.follows .mixedOrders=true:=kqk
theorem U8:Ev.Be (λo=>Ev.tells 110 [.int .u8 o] (.tuple #[vU o,.bool (uW o)])) 0 64=true:=kqk
theorem Us:Ev.Be (λo=>Ev.tells 110 [.int .u8 o] (.tuple #[vU o,.bool (uW o)])) 64 64=true:=kqk
theorem UX:Ev.Be (λo=>Ev.tells 110 [.int .u8 o] (.tuple #[vU o,.bool (uW o)])) 128 64=true:=kqk
theorem Uq:Ev.Be (λo=>Ev.tells 110 [.int .u8 o] (.tuple #[vU o,.bool (uW o)])) 192 64=true:=kqk
theorem ME(o:Nat)(w:World)(h:o<256):Calls Tryz.prog 110 #[.int .u8 o] w λe w'=>e=.returned (.tuple #[vU o,.bool (uW o)])/\Below w.heap.size w w':=by
 refine Ev.QC [.int .u8 o] (by simp[Ev.uy];omega) Tryz.func110 rfl rfl mixed ?_ w;by_cases h1:o<64;·exact Ev.rU U8 o oqo oqo
 ·by_cases h2:o<128;·exact Ev.rU Us o oqo oqo
  ·by_cases h3:o<192;·exact Ev.rU UX o oqo oqo
   ·exact Ev.rU Uq o oqo oqo
