/- Joint text: EvJ, EvK, EvL. By an AI agent. -/
import Derived.Test.YtgdibfnpkcdiiaaGreatDoorRzy
import Derived.Test.YtgdibfnpkcdiiaaGreatDoorR06
import Derived.Laws.AppendOwn
import Derived.Laws.Runes
set_option linter.all false
set_option maxRecDepth 100000
set_option maxHeartbeats 64000000
noncomputable section
namespace Go.Proofs.YtgdibfnpkcdiiaaGreatDoor
namespace Ev
def fE(w:Nat):Bool:=sel (Nat.beq w 0) false (sel (Nat.ble (Nat.mod w 16) 11) true (Nat.beq (Nat.mod w 16) 15))
theorem TR.fE{g:Gh}{R nR w:Nat}{v:Value}(h:TR g R nR w v)(a:fE w=true):VR g w v:=by unfold Ev.fE at a;cases h0:Nat.beq w 0 with|true=>rw[h0]at a;cases a|false=>rw[h0,ah]at a;have h0:=fH h0;cases h1:Nat.ble (Nat.mod w 16) 11 with|true=>have h1:=dY h1;rw[Ev.nR]at h1;exact h.aP oqo oqo oqo h0|false=>rw[h1,ah]at a;have a:=ai a;rw[Ev.nR]at a;exact h.aP oqo oqo oqo h0
theorem cells_one{v:Value}(h:v.oneCell'=true):v.cells=#[v]:=by cases v<;>first|rfl|cases h
def dV(ws:List Nat):Nat:=ws.foldr (λw n=>w+340282366920938463463374607431768211456*n) 0
theorem Mi(M i:Nat):gt M i=M/2^(128*i)%2^128:=by show(M>>>(128*i))&&&(2^128-1)=_;rw[Nat.and_two_pow_sub_one_eq_mod,Nat.shiftRight_eq_div_pow]
theorem Sm{w n i:Nat}(hw:w<2^128):gt (w+2^128*n) i=if i=0 then w else gt n (i-1):=by rw[Mi];cases i with|zero=>rw[qzb rfl,Nat.mul_zero,Nat.pow_zero,Nat.div_one,Nat.add_mul_mod_self_left,qje hw]|succ i=>rw[qzc oqo,Nat.add_sub_cancel,Mi,show 128*(i+1)=128+128*i by omega,Nat.pow_add,<-Nat.div_div_eq_div_mul,Nat.add_mul_div_left _ _ (Nat.two_pow_pos 128),Nat.div_eq_of_lt hw,qja]
theorem gy:∀(ws:List Nat)(i:Nat),(∀w∈ws,w<2^128)->gt (dV ws) i=ws.getD i 0|[],i,_=>by rw[show dV []=0 from rfl,vW];rfl|w::ws,i,h=>by have e:dV (w::ws)=w+2^128*dV ws:=rfl;rw[e,Sm (h w (by simp))];cases i with|zero=>rfl|succ i=>rw[qzc oqo,Nat.add_sub_cancel,gy ws i (λx a=>h x (by simp[a]))];rfl
theorem lS:∀(ws:List Nat),(∀w∈ws,w<2^128)->dV ws<2^(128*ws.length)|[],_=>by rw[show dV []=0 from rfl];exact Nat.two_pow_pos _|w::ws,h=>by have e:dV (w::ws)=w+2^128*dV ws:=rfl;have ih:=lS ws (λx a=>h x (by simp[a]));have hw:=h w (by simp);rw[e,qzv,show 128*(ws.length+1)=128+128*ws.length by omega,Nat.pow_add];calc w+2^128*dV ws<2^128+2^128*dV ws:=Nat.add_lt_add_right hw _
   _=2^128*(dV ws+1):=by rw[Nat.mul_succ,Nat.add_comm]
   _<=_:=Nat.mul_le_mul_left _ ih
def bW(K:Kon)(l:List Value):Nat:=dV (l.map (cV K))
def dZ(K:Kon)(l:List Value):Bool:=l.all λv=>fE (cV K v)
theorem jo{K:Kon}{g:Gh}(h:K.In g){l:List Value}(a:dZ K l=true):bW K l<2^(128*l.length)/\∀i,i<l.length->VR g (gt (bW K l) i) (l.getD i undef):=by
 have hv:∀v∈l,VR g (cV K v) v:=λv hv=>(CZ h 0 0 v).fE (qqw.1 a v hv);have hw:∀w∈l.map (cV K),w<2^128:=λw hw=>by obtain⟨v,hm,rfl⟩:=qjb.1 hw;exact(hv v hm).lt
 refine⟨by have:=lS _ hw;rwa[qqv]at this,λi hi=>?_⟩;rw[bW,gy _ _ hw,qqm,qqm,qqp,qqh hi];exact hv _ (List.getElem_mem hi)
section
variable {P:Program}{K:Kon}{o:Oper}
def Oj(x y:Opd)(st:St):RS:=sel (Nat.beq (Nat.mod (rd st.T x) 16) 5) (sel (Nat.blt (po (rd st.T x)) (pz (rd st.T x))) (sel (Nat.beq (gt st.M (ps (rd st.T x))) 0) .no (sel (fE (rd st.T y))
  (fc (up st.M (Nat.add (ps (rd st.T x)) (po (rd st.T x))) 1 (rd st.T y)) λM=>.ok 0 (setM M st.nM st)) .no)) .no) .no
theorem T9{t:TypeId}{x y:Operand}{i:TypeInfo}(ho:o.op=.store t x y)(hi:P.info? t=some i)(j:i.size=1):OpV P K o (Oj (cOp K x) (cOp K y)):=λg st a w z st' _ l d e=>by unfold Oj at e;obtain⟨h1,e⟩:=ag e;obtain⟨h2,e⟩:=ag e;obtain⟨h3,e⟩:=nT e;obtain⟨k,e⟩:=ag e;rw[bX]at e;injection e with h b;have h2:=aY h2;have h3:=fH h3;rw[nA]at b;obtain⟨blk,base,room,s,f,a3,a4,a5,u⟩:=(d x (by simp[ho,Op.operands])).ptr (ai h1);have hv:=(d y (by simp[ho,Op.operands])).fE k;have c:=hv.lt;obtain⟨w',m,p,r⟩:=l.store P (o:=po (rd st.T (cOp K x))) (n:=1) (cw:=rd st.T (cOp K y)) a5 ⟨0,by omega,by rw[qzz];exact h3⟩ oqo c [a.eval y] rfl (λi hi=>by have:i=0:=oqo;subst this;rw[fT _ c,qzb rfl];exact hv);have hc:=cells_one hv.one;subst b;refine⟨g,w',undef,.inr ⟨?_,rfl⟩,⟨p,r,Ext.refl _ _,by rw[<-h];exact .unk _,rfl,rfl⟩,λq=>absurd q (by simp[ho,dB])⟩;simp[execOp,ho,f,Instr.storeAt,Instr.sureAddr,storeVar,hc,dF hi,j,m]
theorem TR.agg'{g:Gh}{R nR w:Nat}{v:Value}(h:TR g R nR w v)(hm:w%16=12):∃vs,w=dU (sa w) (ln w)/\v=.agg vs/\ln w<16777216/\sa w<4294967296/\sa w+ln w<=nR/\vs.size=ln w/\ ∀i,i<ln w->VR g (gt R (sa w+i)) (vs.getD i undef):=by
 obtain⟨st,n,vs,rfl,e,h1,h2,h3,c,d⟩:=h.Bv hm;have a:ln (dU st n)=n:=by show dU st n/16%16777216=n;unfold dU;omega
 have b:sa (dU st n)=st:=by show dU st n/268435456=st;unfold dU;omega
 rw[a,b];exact⟨vs,rfl,e,h1,h2,h3,c,d⟩
def JB(n:Nat)(x y:Opd)(st:St):RS:=sel (Nat.beq (Nat.mod (rd st.T x) 16) 5) (sel (Nat.ble (Nat.add (po (rd st.T x)) n) (pz (rd st.T x))) (sel (Nat.beq (gt st.M (ps (rd st.T x))) 0) .no
  (sel (Nat.beq (Nat.mod (rd st.T y) 16) 12) (sel (Nat.beq (ln (rd st.T y)) n)
   (fc (up st.M (Nat.add (ps (rd st.T x)) (po (rd st.T x))) n (ch st.R (sa (rd st.T y)) n)) λM=>.ok 0 (setM M st.nM st)) .no) .no)) .no) .no
theorem QO{t:TypeId}{x y:Operand}{i:TypeInfo}(ho:o.op=.store t x y)(hi:P.info? t=some i)(h0:0<i.size):OpV P K o (JB i.size (cOp K x) (cOp K y)):=λg st a w z st' _ p f e=>by
 unfold JB at e;obtain⟨h1,e⟩:=ag e;obtain⟨h2,e⟩:=ag e;obtain⟨h3,e⟩:=nT e;obtain⟨m,e⟩:=ag e;obtain⟨b,e⟩:=ag e;rw[bX]at e;injection e with l d;have h2:=dY h2;have h3:=fH h3;have b:=ai b;rw[nA]at d h2;obtain⟨blk,base,room,v,h,a3,a4,a5,A⟩:=(f x (by simp[ho,Op.operands])).ptr (ai h1);obtain⟨vs,b1,b2,B,C,D,c,k⟩:=(f y (by simp[ho,Op.operands])).agg' (ai m);obtain⟨w',r,s,u⟩:=p.store P (o:=po (rd st.T (cOp K x))) (n:=i.size) (cw:=ch st.R (sa (rd st.T (cOp K y))) i.size) a5 ⟨0,by omega,by rw[qzz];exact h3⟩ h2 (jD _ _ _) vs.toList
  (by rw[jqh,c,b]) (λj hj=>by rw[jF,qzb hj,qqm,qjf,<-qqg];exact k j oqo);subst d;refine⟨g,w',undef,.inr ⟨?_,rfl⟩,⟨s,u,Ext.refl _ _,by rw[<-l];exact .unk _,rfl,rfl⟩,λq=>absurd q (by simp[ho,dB])⟩;simp[execOp,ho,h,b2,Instr.storeAt,Instr.sureAddr,storeVar,Value.cells,dF hi,c,b,r]
def sZ(n cw:Nat)(st:St):RS:=sel (Nat.blt st.nM 16777216) (fc (ad st.M st.nM cw) λM=>.ok (Nat.add (Nat.add 5 (Nat.mul 16 st.nM)) (Nat.mul 268435456 n)) (setM M (Nat.add (Nat.add st.nM n) 1) st)) .no
theorem tQ{g:Gh}{st:St}{w:World}(f:HR g st w){c:Array Value}{t:TypeId}{cw z:Nat}{st':St}(hn:c.size<16777216)(d:cw<2^(128*c.size))(hv:∀i,i<c.size->VR g (gt cw i) (c.getD i undef))(e:sZ c.size cw st=.ok z st'):∃g' w' v,(newVar t (.agg c)).run P w=.ok v w'/\Post g st w g' st' w' z (.pointer (some v)):=by
 unfold sZ at e;obtain⟨h1,e⟩:=ag e;rw[bX]at e;injection e with a b;have h1:=aY h1;simp only[nA,nM]at a b;obtain⟨h,j⟩:=f.alloc c t (0,0) (qqf _) d hv (λi hi=>(hv i hi).one) (.inl rfl);subst b;refine⟨_,_,⟨w.heap.size,0,none⟩,?_,⟨h,j,Ext.refl _ _,?_,rfl,rfl⟩⟩;·simp[newVar,newRow,Value.cells]
 ·have:z=bR st.nM c.size 0:=by rw[<-a];rfl
  rw[this];exact .cell _ _ (.ptr st.nM c.size 0 w.heap.size 0 c.size h1 hn (by rw[Gh.bK,qzb rfl]) (qqy _))
theorem RB{t:TypeId}{i:TypeInfo}{z:Value}(ho:o.op=.alloc t)(hi:P.info? t=some i)(hz:i.zero=some z)(b:dZ K z.cells.toList=true)(hn:z.cells.size<16777216):OpV P K o (sZ z.cells.size (bW K z.cells.toList)):=λg st a w x st' hk d k e=>by obtain⟨c1,c2⟩:=jo hk b;obtain⟨g',w',v,f,j⟩:=tQ (P:=P) d (c:=z.cells) (t:=t) hn (by rwa[jqh]at c1) (λi hi=>by have:=c2 i (by rwa[jqh]);rwa[qqm,qjf,<-qqg]at this) e;refine⟨g',w',_,.inl ?_,j,λq=>absurd q (by simp[ho,dB])⟩;have h:(newVar t z).run P w=.ok v w':=f;simp[execOp,ho,Instr.alloc,zeroValue,jJ hi,hz,h]
def PW(x:Opd)(st:St):RS:=sel (fE (rd st.T x)) (sZ 1 (rd st.T x) st) .no
theorem R8{t:TypeId}{x:Operand}(ho:o.op=.box t x):OpV P K o (PW (cOp K x)):=λg st a w z st' hk b d e=>by
 unfold PW at e;obtain⟨h1,e⟩:=ag e;have hv:=(d x (by simp[ho,Op.operands])).fE h1;have hc:=cells_one hv.one;obtain⟨g',w',v,f,j⟩:=tQ (P:=P) b (c:=#[a.eval x]) (t:=t) (by simp) (by simpa using hv.lt) (λi hi=>by
  have:i=0:=by simpa using hi
  subst this;rw[fT _ hv.lt,qzb rfl];exact hv) e;refine⟨g',w',_,.inl ?_,j,λq=>absurd q (by simp[ho,dB])⟩;have h:(newVar t (a.eval x)).run P w=.ok v w':=by unfold newVar at*;rw[hc];exact f
 simp[execOp,ho,Instr.box,h]
def JS(x:Opd)(st:St):RS:=sel (Nat.beq (Nat.mod (rd st.T x) 16) 12) (sZ (ln (rd st.T x)) (ch st.R (sa (rd st.T x)) (ln (rd st.T x))) st) .no
theorem Od{t:TypeId}{x:Operand}(ho:o.op=.box t x):OpV P K o (JS (cOp K x)):=λg st a w z st' hk h j e=>by unfold JS at e;obtain⟨h1,e⟩:=ag e;obtain⟨vs,b1,b2,b,m,n,f,d⟩:=(j x (by simp[ho,Op.operands])).agg' (ai h1);rw[<-f]at e b d;obtain⟨g',w',v,k,l⟩:=tQ (P:=P) h (c:=vs) (t:=t) b (jD _ _ _) (λi hi=>by rw[jF,qzb hi];exact d i hi) e;refine⟨g',w',_,.inl ?_,l,λq=>absurd q (by simp[ho,dB])⟩;simp[execOp,ho,b2,Instr.box,k]
theorem xO{vs:Array Value}{j:Nat}(hj:j<vs.size):vs[j]? =some (vs.getD j undef):=by rw[jqd hj,qqg,jqd hj];rfl
def Ou(j:Nat)(x:Opd)(st:St):RS:=sel (Nat.beq (Nat.mod (rd st.T x) 16) 13) (sel (Nat.blt j (ln (rd st.T x))) (.ok (gt st.R (Nat.add (sa (rd st.T x)) j)) st) .no) .no
theorem TR.Xl{g:Gh}{R nR w:Nat}{v:Value}(h:TR g R nR w v)(hm:w%16=13):∃vs,w=eZ (sa w) (ln w)/\v=.tuple vs/\ln w<16777216/\sa w<4294967296/\sa w+ln w<=nR/\vs.size=ln w/\ ∀i,i<ln w->TR g R nR (gt R (sa w+i)) (vs.getD i undef):=by
 obtain⟨st,n,vs,rfl,e,h1,h2,h3,c,d⟩:=h.rV hm;have a:ln (eZ st n)=n:=by show eZ st n/16%16777216=n;unfold eZ;omega
 have b:sa (eZ st n)=st:=by show eZ st n/268435456=st;unfold eZ;omega
 rw[a,b];exact⟨vs,rfl,e,h1,h2,h3,c,d⟩
theorem Uc{x:Operand}{j:Nat}(ho:o.op=.extract x j):OpV P K o (Ou j (cOp K x)):=.pure λg st a w z st' _ m f e=>by unfold Ou at e;obtain⟨h1,e⟩:=ag e;obtain⟨h2,e⟩:=ag e;injection e with b d;have h2:=aY h2;rw[nA]at b;obtain⟨vs,b1,b2,h,i,k,l,c⟩:=(f x (by simp[ho,Op.operands])).Xl (ai h1);refine⟨d.symm,vs.getD j undef,?_,by rw[<-b];exact c j h2⟩;have hj:j<vs.size:=oqo;have:=xO hj;generalize vs.getD j undef=u at*;simp[execOp,ho,b2,Instr.extract,this]
def Qf(off:Nat)(x:Opd)(st:St):RS:=sel (Nat.beq (Nat.mod (rd st.T x) 16) 12) (sel (Nat.blt off (ln (rd st.T x))) (.ok (gt st.R (Nat.add (sa (rd st.T x)) off)) st) .no) .no
def OT(off n:Nat)(x:Opd)(st:St):RS:=sel (Nat.beq (Nat.mod (rd st.T x) 16) 12) (sel (Nat.ble (Nat.add off n) (ln (rd st.T x))) (sel (Nat.blt (Nat.add (sa (rd st.T x)) off) 4294967296) (.ok (Nat.add (Nat.add 12 (Nat.mul 16 n)) (Nat.mul 268435456 (Nat.add (sa (rd st.T x)) off))) st) .no) .no) .no
theorem qI{t:TypeId}{d:TypeDesc}(ht:P.underlying t=some d)(hd:fU d=false){vs:Array Value}{off:Nat}(h:off<vs.size)(w:World):(part t vs off).run P w=.ok (vs.getD off undef) w:=by have:=xO h;generalize vs.getD off undef=u at*;simp[part,pQ ht,hd,this]
theorem DT{t:TypeId}{d:TypeDesc}{i:TypeInfo}(ht:P.underlying t=some d)(hd:fU d=true)(hi:P.info? t=some i)(vs:Array Value)(off:Nat)(w:World):(part t vs off).run P w=.ok (.agg (vs.extract off (off+i.size))) w:=by simp[part,pQ ht,hd,dF hi]
theorem TR.view{g:Gh}{R nR s n m off:Nat}{vs:Array Value}(hm:m<16777216)(hs:s+off<4294967296)(a:s+n<=nR)(hv:vs.size=n)(ho:off+m<=n)(h:∀i,i<n->VR g (gt R (s+i)) (vs.getD i undef)):TR g R nR (dU (s+off) m) (.agg (vs.extract off (off+m))):=by
 refine .agg _ _ _ hm hs oqo (by simp;omega) λi hi=>?_;have:=h (off+i) oqo;rw[<-jqp]at this;have e:(vs.extract off (off+m)).getD i undef=vs.getD (off+i) undef:=by rw[qqg,qqg,Array.getElem?_extract,qzb oqo]
 rw[e];exact this
theorem Sk{t:TypeId}{x:Operand}{j:Nat}{fs:Array Field}{f:Field}{d:TypeDesc}(ho:o.op=.field t x j)(ht:P.underlying t=some (.struct fs))(hf:fs[j]? =some f)(hu:P.underlying f.type=some d)(hd:fU d=false):OpV P K o (Qf f.offset (cOp K x)):=.pure λg st a w z st' _ p i e=>by unfold Qf at e;obtain⟨h1,e⟩:=ag e;obtain⟨h2,e⟩:=ag e;injection e with b h;have h2:=aY h2;rw[nA]at b;obtain⟨vs,b1,b2,k,l,m,n,c⟩:=(i x (by simp[ho,Op.operands])).agg' (ai h1);refine⟨h.symm,vs.getD f.offset undef,?_,by rw[<-b];exact .cell _ _ (c _ h2)⟩;simp[execOp,ho,b2,Instr.field,jqa ht,hf,asAgg,qI hu hd (show f.offset<vs.size by omega)]
theorem Rz{t:TypeId}{x:Operand}{j:Nat}{fs:Array Field}{f:Field}{d:TypeDesc}{i:TypeInfo}(ho:o.op=.field t x j)(ht:P.underlying t=some (.struct fs))(hf:fs[j]? =some f)(hu:P.underlying f.type=some d)(hd:fU d=true)(hi:P.info? f.type=some i)(hn:i.size<16777216):OpV P K o (OT f.offset i.size (cOp K x)):=.pure λg st a w z st' _ q m e=>by
 unfold OT at e;obtain⟨h1,e⟩:=ag e;obtain⟨h2,e⟩:=ag e;obtain⟨h3,e⟩:=ag e;injection e with b l;have h2:=dY h2;have h3:=aY h3;simp only[nA,nM]at b h2 h3;obtain⟨vs,b1,b2,n,p,c,h,k⟩:=(m x (by simp[ho,Op.operands])).agg' (ai h1);refine⟨l.symm,.agg (vs.extract f.offset (f.offset+i.size)),?_,?_⟩;·simp[execOp,ho,b2,Instr.field,jqa ht,hf,asAgg,DT hu hd hi]
 ·have:z=dU (sa (rd st.T (cOp K x))+f.offset) i.size:=by rw[<-b];rfl
  rw[this];exact TR.view hn h3 c h h2 k
def OJ(n size:Nat)(x y:Opd)(st:St):RS:=sel (Nat.beq (Nat.mod (rd st.T x) 16) 12) (sel (qY (rd st.T y)) (sel (Nat.blt (ixN (rd st.T y)) n) (sel (Nat.blt (Nat.mul (ixN (rd st.T y)) size) (ln (rd st.T x)))
  (.ok (gt st.R (Nat.add (sa (rd st.T x)) (Nat.mul (ixN (rd st.T y)) size))) st) .no) .no) .no) .no
def Pz(n size:Nat)(x y:Opd)(st:St):RS:=sel (Nat.beq (Nat.mod (rd st.T x) 16) 12) (sel (qY (rd st.T y)) (sel (Nat.blt (ixN (rd st.T y)) n) (sel (Nat.ble (Nat.add (Nat.mul (ixN (rd st.T y)) size) size) (ln (rd st.T x))) (sel (Nat.blt (Nat.add (sa (rd st.T x)) (Nat.mul (ixN (rd st.T y)) size)) 4294967296)
  (.ok (Nat.add (Nat.add 12 (Nat.mul 16 size)) (Nat.mul 268435456 (Nat.add (sa (rd st.T x)) (Nat.mul (ixN (rd st.T y)) size)))) st) .no) .no) .no) .no) .no
theorem BO{t e:TypeId}{n:Nat}{i:TypeInfo}(ht:P.underlying t=some (.array n e))(hi:P.info? e=some i)(cs:Array Value)(k:IntKind)(j:Nat)(hj:j<n)(w:World){v:Value}(h:(part e cs (j*i.size)).run P w=.ok v w):(Instr.index t (.agg cs) (.int k (j:Int))).run P w=.ok v w:=by have h1:(0:Int)<=(j:Int)/\(j:Int)<(n:Int):=oqo;simp[Instr.index,asIntOf,jqa ht,dF hi,h];intro hc;omega
theorem Sb{t e:TypeId}{x y:Operand}{n:Nat}{i:TypeInfo}{d:TypeDesc}(ho:o.op=.index t x y)(ht:P.underlying t=some (.array n e))(hi:P.info? e=some i)(hu:P.underlying e=some d)(hd:fU d=false):OpV P K o (OJ n i.size (cOp K x) (cOp K y)):=.pure λg st a w z st' _ r f e=>by unfold OJ at e;obtain⟨h1,e⟩:=ag e;obtain⟨h2,e⟩:=ag e;obtain⟨h3,e⟩:=ag e;obtain⟨b,e⟩:=ag e;injection e with c l;have h3:=aY h3;have b:=aY b;simp only[nA,nM]at c b;obtain⟨vs,b1,b2,m,p,q,h,j⟩:=(f x (by simp[ho,Op.operands])).agg' (ai h1);obtain⟨k,c2⟩:=(f y (by simp[ho,Op.operands])).ixN h2;refine⟨l.symm,vs.getD (ixN (rd st.T (cOp K y))*i.size) undef,?_,by rw[<-c];exact .cell _ _ (j _ b)⟩;have:=BO ht hi vs k _ h3 w (qI hu hd (show _<vs.size by rw[h];exact b) w);simp only[execOp,ho,b2,c2,qjm,this,qjl];rfl
theorem RY{t e:TypeId}{x y:Operand}{n:Nat}{i:TypeInfo}{d:TypeDesc}(ho:o.op=.index t x y)(ht:P.underlying t=some (.array n e))(hi:P.info? e=some i)(hu:P.underlying e=some d)(hd:fU d=true)(hn:i.size<16777216):OpV P K o (Pz n i.size (cOp K x) (cOp K y)):=.pure λg st a w z st' _ s h e=>by
 unfold Pz at e;obtain⟨h1,e⟩:=ag e;obtain⟨h2,e⟩:=ag e;obtain⟨h3,e⟩:=ag e;obtain⟨b,e⟩:=ag e;obtain⟨c,e⟩:=ag e;injection e with f p;have h3:=aY h3;have b:=dY b;have c:=aY c;simp only[nA,nM]at f b c;obtain⟨vs,b1,b2,q,r,j,l,m⟩:=(h x (by simp[ho,Op.operands])).agg' (ai h1);obtain⟨k,c2⟩:=(h y (by simp[ho,Op.operands])).ixN h2;refine⟨p.symm,.agg (vs.extract (ixN (rd st.T (cOp K y))*i.size) (ixN (rd st.T (cOp K y))*i.size+i.size)),?_,?_⟩;·have:=BO ht hi vs k _ h3 w (DT hu hd hi vs _ w);simp only[execOp,ho,b2,c2,qjm,this,qjl];rfl
 ·have:z=dU (sa (rd st.T (cOp K x))+ixN (rd st.T (cOp K y))*i.size) i.size:=by rw[<-f];rfl
  rw[this];exact TR.view hn c j l b m
def KA(x:Opd)(st:St):RS:=sel (Nat.beq (Nat.mod (rd st.T x) 16) 5) (.ok (rd st.T x) st) (sel (Nat.beq (Nat.mod (rd st.T x) 16) 10) (.ok (rd st.T x) st) (sel (Nat.beq (Nat.mod (rd st.T x) 16) 15) (.ok (rd st.T x) st) .no))
theorem NQ{x:Operand}(ho:o.op=.nilCheck x):OpV P K o (KA (cOp K x)):=.pure λg st a w z st' _ p j e=>by unfold KA at e;have b:=j x (by simp[ho,Op.operands]);cases h1:Nat.beq (Nat.mod (rd st.T (cOp K x)) 16) 5 with|true=>rw[h1,ak]at e;injection e with d h;obtain⟨blk,base,room,i,c,_⟩:=b.ptr (ai h1);exact⟨h.symm,a.eval x,by simp[execOp,ho,c],by rw[<-d];exact b⟩|false=>rw[h1,ah]at e;cases h2:Nat.beq (Nat.mod (rd st.T (cOp K x)) 16) 10 with|true=>rw[h2,ak]at e;injection e with d h;have h2:rd st.T (cOp K x)%16=10:=ai h2;obtain⟨f,m,n,s,ws,l,k,i,c,_⟩:=(b.aP oqo oqo oqo oqo).mM h2;exact⟨h.symm,a.eval x,by simp[execOp,ho,c],by rw[<-d];exact b⟩|false=>rw[h2,ah]at e;obtain⟨h3,e⟩:=ag e;injection e with d h;have h3:rd st.T (cOp K x)%16=15:=ai h3;obtain⟨f,i,c,_⟩:=(b.aP oqo oqo oqo oqo).rF h3;exact⟨h.symm,a.eval x,by simp[execOp,ho,c],by rw[<-d];exact b⟩
def rds(T:Nat)(l:List Opd):List Nat:=l.map (rd T)
def Qj(f m n:Nat)(l:List Opd)(st:St):RS:=sel (l.all λx=>fE (rd st.T x)) (sel (Nat.blt st.nM 16777216) (fc (ad st.M st.nM (dV (rds st.T l))) λM=> .ok (Nat.add (Nat.add (Nat.add (Nat.add 10 (Nat.mul 16 f)) (Nat.mul 1048576 m)) (Nat.mul 268435456 n)) (Nat.mul 68719476736 st.nM)) (setM M (Nat.add (Nat.add st.nM (Nat.add m n)) 1) st)) .no) .no
theorem xI(T:Nat)(l:List Opd)(i:Nat)(h:i<l.length):(rds T l).getD i 0=rd T l[i]:=by simp[rds,qqm,qqh h]
theorem Ug{f:Nat}{first b:Array Operand}(ho:o.op=.makeFunc (.func f) first b)(hf:f<65536)(hm:first.size<256)(hn:b.size<256):OpV P K o (Qj f first.size b.size (first.toList.map (cOp K)++b.toList.map (cOp K))):=λg st a w z st' hk m n e=>by
 unfold Qj at e;obtain⟨h1,e⟩:=ag e;obtain⟨h2,e⟩:=ag e;rw[bX]at e;injection e with h j;have h2:=aY h2;simp only[nA,nM]at h j;rw[qqw]at h1;have k:(rds st.T (first.toList.map (cOp K)++b.toList.map (cOp K))).length=first.size+b.size:=by simp[rds]
 have hv:∀x,x∈first\/x∈b->VR g (rd st.T (cOp K x)) (a.eval x):=λx c=>(n x (by simpa [ho,Op.operands]using c)).fE (h1 _ (by
  rcases c with c|c;·exact qzu.2 (.inl (qjb.2 ⟨x,by simpa using c,rfl⟩))
  ·exact qzu.2 (.inr (qjb.2 ⟨x,by simpa using c,rfl⟩))));have hw:∀w∈rds st.T (first.toList.map (cOp K)++b.toList.map (cOp K)),w<2^128:=λw hm'=>by
  simp only[rds,jxf,qzx,qzu,qjb,Function.comp]at hm';rcases hm' with⟨x,c,rfl⟩|⟨x,c,rfl⟩;·exact(hv x (.inl (by simpa using c))).lt
  ·exact(hv x (.inr (by simpa using c))).lt
 obtain⟨l,d⟩:=m.row _ (lS _ hw) (λi hi=>gy _ i hw);rw[k]at l;subst j;refine⟨_,w,.func (.func f) (first.map a.eval) (b.map a.eval),.inl ?_,⟨l,d,Ext.refl _ _,?_,rfl,rfl⟩,λ_=>.inl rfl⟩;·simp[execOp,ho,Instr.makeFunc]
 ·have:z=eD f first.size b.size st.nM:=by rw[<-h];rfl
  rw[this];refine .cell _ _ (.func f _ _ st.nM _ _ _ hf hm hn h2 (by rw[Gh.bK,qzb rfl]) (by simp) (by simp) k (λi hi=>?_) (λi hi=>?_))
  ·refine VR.mono d.le ?_;rw[xI _ _ _ (by simp;omega),List.getElem_append_left (by simpa using hi),jja];have e:(first.map a.eval).getD i undef=a.eval first[i]:=by simp[qqg,hi]
   rw[e,Array.getElem_toList];exact hv _ (.inl (Array.getElem_mem hi))
  ·refine VR.mono d.le ?_;rw[xI _ _ _ (by simp;omega),List.getElem_append_right (by simp),jja];have e:(b.map a.eval).getD i undef=a.eval b[i]:=by simp[qqg,hi]
   rw[e];simp only[qqv,jqh,Nat.add_sub_cancel_left,Array.getElem_toList];exact hv _ (.inr (Array.getElem_mem hi))
def OP(t:Nat)(x:Opd)(st:St):RS:=sel (fE (rd st.T x)) (sel (Nat.blt st.nM 16777216) (fc (ad st.M st.nM (dV [rd st.T x])) λM=>.ok (Nat.add (Nat.add 11 (Nat.mul 16 t)) (Nat.mul 68719476736 st.nM)) (setM M (Nat.add (Nat.add st.nM 1) 1) st)) .no) .no
theorem TP{t:TypeId}{x:Operand}{d:TypeDesc}(ho:o.op=.makeInterface t x)(ht:P.underlying t=some d)(hd:∀ms,d≠.interface ms)(hl:t<1048576):OpV P K o (OP t (cOp K x)):=λg st a w z st' hk h j e=>by
 unfold OP at e;obtain⟨h1,e⟩:=ag e;obtain⟨h2,e⟩:=ag e;rw[bX]at e;injection e with b c;have h2:=aY h2;simp only[nA,nM]at b c;have hv:=(j x (by simp[ho,Op.operands])).fE h1;have h0:rd st.T (cOp K x)≠0:=λhc=>by rw[hc]at h1;exact absurd h1 (by decide)
 have hw:∀w∈[rd st.T (cOp K x)],w<2^128:=λw hm=>by rw[List.mem_singleton]at hm;subst hm;exact hv.lt
 obtain⟨k,f⟩:=h.row _ (lS _ hw) (λi hi=>gy _ i hw);subst c;refine⟨_,w,.iface t (a.eval x),.inl ?_,⟨k,f,Ext.refl _ _,?_,rfl,rfl⟩,λ_=>.inl rfl⟩;·cases d<;>first|(exact absurd rfl (hd _))|simp[execOp,ho,Instr.makeInterface,jqa ht]
 ·have:z=iD t st.nM:=by rw[<-b];rfl
  rw[this];exact .cell _ _ (.ifc t st.nM _ _ hl h2 (by rw[Gh.bK,qzb rfl]) (hv.mono f.le) h0)
end
end Ev
namespace Ev
structure Prt where
 off:Nat
 n:Nat
 x:Opd
def jN(T R:Nat):List Prt->Nat->Option Nat:=λl=>List.rec (λc=>some c) (λp _ ih c=>sel (Nat.beq p.n 0) (sel (fE (rd T p.x)) (fc (up c p.off 1 (rd T p.x)) ih) none)
  (sel (Nat.beq (Nat.mod (rd T p.x) 16) 12) (sel (Nat.beq (ln (rd T p.x)) p.n) (fc (up c p.off p.n (ch R (sa (rd T p.x)) p.n)) ih) none) none)) l
theorem BC(T R c:Nat):jN T R [] c=some c:=rfl
theorem zB(T R:Nat)(p:Prt)(l:List Prt)(c:Nat):jN T R (p::l) c=sel (Nat.beq p.n 0) (sel (fE (rd T p.x)) (jN T R l (up c p.off 1 (rd T p.x))) none)
  (sel (Nat.beq (Nat.mod (rd T p.x) 16) 12) (sel (Nat.beq (ln (rd T p.x)) p.n) (jN T R l (up c p.off p.n (ch R (sa (rd T p.x)) p.n))) none) none):=by
 have:jN T R (p::l) c=sel (Nat.beq p.n 0) (sel (fE (rd T p.x)) (fc (up c p.off 1 (rd T p.x)) (jN T R l)) none)
  (sel (Nat.beq (Nat.mod (rd T p.x) 16) 12) (sel (Nat.beq (ln (rd T p.x)) p.n) (fc (up c p.off p.n (ch R (sa (rd T p.x)) p.n)) (jN T R l)) none) none):=rfl;rw[this,bX,bX]
theorem Dg:∀(l:List Value)(k off:Nat)(cs:Array Value),off+k+l.length<=cs.size->((l.zipIdx k).foldl (λcs(c,j)=>cs.setIfInBounds (off+j) c) cs).size=cs.size/\ ∀i,((l.zipIdx k).foldl (λcs(c,j)=>cs.setIfInBounds (off+j) c) cs).getD i undef=if off+k<=i/\i<off+k+l.length then l.getD (i-(off+k)) undef else cs.getD i undef
 |[],k,off,cs,h=>⟨rfl,λi=>by rw[qzc (by rintro⟨h1,h2⟩;simp at h2;omega)];rfl⟩|v::l,k,off,cs,h=>by
  simp only[qzv]at h;obtain⟨h1,h2⟩:=Dg l (k+1) off (cs.setIfInBounds (off+k) v) (by simp;omega);rw[List.zipIdx_cons,List.foldl_cons];refine⟨by rw[h1];simp,λi=>?_⟩;rw[h2];by_cases hi:i=off+k;·subst hi;rw[qzc oqo,qzb (by simp),jzj];simp[qqg,show off+k<cs.size by omega]
  ·by_cases hj:off+(k+1)<=i/\i<off+(k+1)+l.length;·rw[qzb hj,qzb (by simp;omega),show i-(off+k)=(i-(off+(k+1)))+1 by omega];rfl
   ·rw[qzc hj,qzc (by simp;omega)];simp[qqg,Ne.symm hi]
theorem Ph(v:Array Value)(off:Nat)(cs:Array Value)(h:off+v.size<=cs.size):(v.zipIdx.foldl (λcs(c,j)=>cs.setIfInBounds (off+j) c) cs).size=cs.size/\ ∀i,(v.zipIdx.foldl (λcs(c,j)=>cs.setIfInBounds (off+j) c) cs).getD i undef=if off<=i/\i<off+v.size then v.getD (i-off) undef else cs.getD i undef:=by have:=Dg v.toList 0 off cs (by simpa using h);rw[<-Array.foldl_toList,Array.toList_zipIdx];refine⟨this.1,λi=>?_⟩;rw[this.2 i];simp only[qzz,jqh,qqm,qjf,qqg]
def JO(K:Kon)(a:Nat->Option (Nat×Nat×Bool))(c:Nat)(x:Nat×Operand):Option Prt:=match a x.1 with|some (off,sz,b)=>if off+sz<=c then(if b=true then(if 0<sz then some ⟨off,sz,cOp K x.2⟩else none)else if sz=1 then some ⟨off,0,cOp K x.2⟩else none)else none|none=>none
def mi(K:Kon)(a:Nat->Option (Nat×Nat×Bool))(b:Nat):List (Nat×Operand)->Option (List Prt)|[]=>some []|x::l=>match JO K a b x,mi K a b l with|some p,some ps=>some (p::ps)|_,_=>none
theorem Ny{K:Kon}{c:Nat->Option (Nat×Nat×Bool)}{d:Nat}{x:Nat×Operand}{p:Prt}(h:JO K c d x=some p): ∃sz b,c x.1=some (p.off,sz,b)/\p.off+sz<=d/\((b=true/\p.n=sz/\0<sz)\/(b=false/\sz=1/\p.n=0))/\p.x=cOp K x.2:=by
 unfold JO at h;split at h
 ·rename_i off sz b a;split at h
  ·rename_i h1;split at h
   ·rename_i h2;split at h;·rename_i h3;injection h with h;subst h;exact⟨sz,b,a,h1,.inl ⟨h2,rfl,h3⟩,rfl⟩
    ·cases h
   ·rename_i h2;split at h;·rename_i h3;injection h with h;subst h;exact⟨sz,b,a,h1,.inr ⟨by simpa using h2,h3,rfl⟩,rfl⟩
    ·cases h
  ·cases h
 ·cases h
theorem wT{K:Kon}{g:Gh}{R nR T:Nat}{a:Act}{z:Nat->Option (Nat×Nat×Bool)}{d:Nat}:∀(l:List (Nat×Operand))(ps:List Prt),mi K z d l=some ps->(∀x∈l,TR g R nR (rd T (cOp K x.2)) (a.eval x.2))->∀(cells:Array Value)(c f:Nat),cells.size=d->c<2^(128*d)->(∀j,j<d->VR g (gt c j) (cells.getD j undef))->jN T R ps c=some f-> ∃h,Instr.fill (λi=>(z i).map λq=>(q.1,q.2.1)) cells (l.map λx=>(x.1,a.eval x.2))=some h/\h.size=d/\f<2^(128*d)/\∀j,j<d->VR g (gt f j) (h.getD j undef)
 |[],ps,m,_,cells,c,f,hs,hc,hv,e=>by rw[mi]at m;injection m with m;subst m;rw[BC]at e;injection e with e;subst e;exact⟨cells,rfl,hs,hc,hv⟩|x::l,W,n,D,cells,c,f,hs,hc,hv,e=>by
  rw[mi]at n;split at n;rotate_left;·cases n
  rename_i p ps m L;injection n with n;subst n;obtain⟨sz,b,h1,h2,h3,I⟩:=Ny m;rw[zB]at e;have w:=D x (by simp);rw[<-I]at w;have key:∀(vs:Array Value)(cw:Nat),(a.eval x.2).cells=vs->vs.size=sz->cw<2^(128*sz)->(∀j,j<sz->VR g (gt cw j) (vs.getD j undef))->jN T R ps (up c p.off sz cw)=some f-> ∃h,Instr.fill (λi=>(z i).map λq=>(q.1,q.2.1)) cells ((x::l).map λx=>(x.1,a.eval x.2))=some h/\h.size=d/\f<2^(128*d)/\∀j,j<d->VR g (gt f j) (h.getD j undef):=by
   intro vs cw A F B G H;obtain⟨f1,f2⟩:=Ph vs p.off cells oqo;obtain⟨h,N,O⟩:=wT l ps L (λy M=>D y (by simp[M])) _ _ f (f1.trans hs) (yM hc oqo B) (λj hj=>by
    rw[lT _ _ _ B,f2 j];by_cases C:p.off<=j/\j<p.off+sz;·rw[qzb C,qzb oqo];exact G _ oqo
    ·rw[qzc C,qzc oqo];exact hv j hj) H;refine⟨h,?_,O⟩;rw[jqw,Instr.fill];simp only[h1,jqb];rw[qzc (by simp[A,F];omega),A];exact N
  cases k:Nat.beq p.n 0 with
  |true=>
   rw[k,ak]at e;have k:=ai k;rcases h3 with⟨_,r,J⟩|⟨_,r,_⟩;·omega
   ·subst r;cases v:fE (rd T p.x)with|false=>rw[v]at e;cases e|true=>rw[v,ak]at e;have t:=w.fE v;refine key #[a.eval x.2] _ (cells_one t.one) rfl t.lt (λj hj=>?_) e;have:j=0:=oqo;subst this;rw[fT _ t.lt,qzb rfl];exact t
  |false=>
   rw[k,ah]at e;have k:=fH k;rcases h3 with⟨_,r,J⟩|⟨_,_,r⟩;·cases u:Nat.beq (Nat.mod (rd T p.x) 16) 12 with|false=>rw[u]at e;cases e|true=>rw[u,ak]at e;cases s:Nat.beq (ln (rd T p.x)) p.n with|false=>rw[s]at e;cases e|true=>rw[s,ak]at e;have s:=ai s;obtain⟨vs,b1,b2,Q,S,U,V,E⟩:=w.agg' (ai u);rw[r]at e s;exact key vs _ (by rw[b2];rfl) oqo (jD _ _ _) (λj hj=>by rw[jF,qzb hj];exact E j oqo) e
   ·omega
section
variable {P:Program}{K:Kon}{o:Oper}
def Bl(n c0:Nat)(ps:List Prt)(st:St):RS:=sel (Nat.blt st.nR 4294967296) (Option.rec .no (λc=>fc (ad st.R st.nR c) λR=>.ok (Nat.add (Nat.add 12 (Nat.mul 16 n)) (Nat.mul 268435456 st.nR)) (setR R (Nat.add st.nR n) st)) (jN st.T st.R ps c0)) .no
theorem Ih{g:Gh}{st:St}{w:World}(a:HR g st w){n c x:Nat}{st':St}{cells:Array Value}(hn:n<16777216)(hr:st.nR<4294967296)(hs:cells.size=n)(hc:c<2^(128*n))(hv:∀j,j<n->VR g (gt c j) (cells.getD j undef))(e:(fc (ad st.R st.nR c) λR=>RS.ok (Nat.add (Nat.add 12 (Nat.mul 16 n)) (Nat.mul 268435456 st.nR)) {st with R:=R,nR:=Nat.add st.nR n})=.ok x st'):Post g st w g st' w x (.agg cells):=by
 rw[bX]at e;injection e with b d;simp only[nA,nM]at b d;subst d;refine⟨a.frame _ _ (ic a.Rlt hc),Fr.refl _ _,Ext.ad _ _ a.Rlt,?_,rfl,rfl⟩;have:x=dU st.nR n:=by rw[<-b];rfl
 rw[this];refine .agg _ _ _ hn hr (qqf _) hs λj hj=>?_;rw[dM _ _ a.Rlt,qzc oqo,show st.nR+j-st.nR=j by omega];exact hv j hj
def plS(P:Program)(fs:Array Field)(i:Nat):Option (Nat×Nat×Bool):=(fs[i]?).map λf=>(f.offset,((P.info? f.type).map (·.size)).getD 0,fU ((P.underlying f.type).getD .invalid))
theorem run_places{fs:Array Field}(h:∀f∈fs,(P.info? f.type).isSome=true)(w:World):(fs.mapM λ(f:Field)=>(do pure (f.offset,<-sizeOf f.type):Sem (Nat×Nat))).run P w=.ok (fs.map λf=>(f.offset,((P.info? f.type).map (·.size)).getD 0)) w:=by
 rw[<-jzg (xs:=fs)]at h⊢;generalize fs.toList=l at h⊢;rw[List.mapM_toArray,List.map_toArray];have:∀l:List Field,(∀f∈l,(P.info? f.type).isSome=true)->(l.mapM λf=>(do pure (f.offset,<-sizeOf f.type):Sem (Nat×Nat))).run P w=.ok (l.map λf=>(f.offset,((P.info? f.type).map (·.size)).getD 0)) w:=by intro l;induction l with|nil=>intro _;rfl|cons f l ih=>intro h;obtain⟨i,hi⟩:=jxm.1 (h f (by simp));have ih:=ih (λx a=>h x (by simp[a]));rw[List.mapM_cons];simp only[qjm,dF hi,qjl,jzc,ih,jqw,hi,jqb,qzm]
 rw[Sem.run_map,this l (by simpa using h)];rfl
theorem Pd{t:TypeId}{parts:Array (Nat×Operand)}{fs:Array Field}{i:TypeInfo}{z:Value}{ps:List Prt}(ho:o.op=.build t parts)(ht:P.underlying t=some (.struct fs))(hi:P.info? t=some i)(hz:i.zero=some z)(h:dZ K z.cells.toList=true)(hn:z.cells.size<16777216)(hf:∀f∈fs,(P.info? f.type).isSome=true)(l:mi K (plS P fs) z.cells.size parts.toList=some ps):OpV P K o (Bl z.cells.size (bW K z.cells.toList) ps):=λg st a w x st' hk k n e=>by unfold Bl at e;obtain⟨h1,e⟩:=ag e;have h1:=aY h1;obtain⟨c1,c2⟩:=jo hk h;rw[jqh]at c1 c2;cases b:jN st.T st.R ps (bW K z.cells.toList)with|none=>rw[b]at e;cases e|some c=>
  rw[b]at e;obtain⟨cells,d,s,u,v⟩:=wT parts.toList ps l (λy p=>n y.2 (by simp only[ho,Op.operands,List.mem_toArray,qjb];exact⟨y,p,rfl⟩)) z.cells _ c rfl c1 (λj hj=>by have:=c2 j hj;rwa[qqm,qjf,<-qqg]at this) b;refine⟨g,w,.agg cells,.inl ?_,Ih k hn h1 s u v e,λ_=>.inl rfl⟩;have m:(λi=>(plS P fs i).map λq=>(q.1,q.2.1))=λi=>(fs.map λf=>(f.offset,((P.info? f.type).map (·.size)).getD 0))[i]?:=by funext i;simp[plS,Function.comp_def]
  rw[m]at d;have r:(parts.map λx=>(x.1,a.eval x.2)).toList=parts.toList.map λx=>(x.1,a.eval x.2):=by simp
  rw[<-r]at d;simp only[execOp,ho,Instr.build,qjm,zeroValue,jJ hi,hz,jqa ht,qjl,jzc,run_places hf,d]
theorem Qd{t e:TypeId}{parts:Array (Nat×Operand)}{n:Nat}{b:Bool}{i q:TypeInfo}{z:Value}{ps:List Prt}(ho:o.op=.build t parts)(ht:P.underlying t=some (.array n e))(hi:P.info? t=some i)(hz:i.zero=some z)(m:P.info? e=some q)(h:dZ K z.cells.toList=true)(hn:z.cells.size<16777216)(l:mi K (λi=>some (i*q.size,q.size,b)) z.cells.size parts.toList=some ps):OpV P K o (Bl z.cells.size (bW K z.cells.toList) ps):=λg st a w x st' hk k p e=>by unfold Bl at e;obtain⟨h1,e⟩:=ag e;have h1:=aY h1;obtain⟨c1,c2⟩:=jo hk h;rw[jqh]at c1 c2;cases d:jN st.T st.R ps (bW K z.cells.toList)with|none=>rw[d]at e;cases e|some c=>
  rw[d]at e;obtain⟨cells,f,u,v,A⟩:=wT parts.toList ps l (λy r=>p y.2 (by simp only[ho,Op.operands,List.mem_toArray,qjb];exact⟨y,r,rfl⟩)) z.cells _ c rfl c1 (λj hj=>by have:=c2 j hj;rwa[qqm,qjf,<-qqg]at this) d;refine⟨g,w,.agg cells,.inl ?_,Ih k hn h1 u v A e,λ_=>.inl rfl⟩;simp only[jqb]at f;have s:(parts.map λx=>(x.1,a.eval x.2)).toList=parts.toList.map λx=>(x.1,a.eval x.2):=by simp
  rw[<-s]at f;simp only[execOp,ho,Instr.build,qjm,zeroValue,jJ hi,hz,jqa ht,qjl,jzc,dF m,f]
def Az(l e c0:Nat)(ps:List Prt)(st:St):RS:=sel (Nat.blt st.nM 16777216) (Option.rec .no (λc=>fc (ad st.M st.nM c) λM=> .ok (Nat.add (Nat.add (Nat.add (Nat.add 7 (Nat.mul 16 st.nM)) (Nat.mul 268435456 (Nat.mul l e))) (Nat.mul 4503599627370496 l)) (Nat.mul 75557863725914323419136 e)) (setM M (Nat.add (Nat.add st.nM (Nat.mul l e)) 1) st)) (jN st.T st.R ps c0)) .no
theorem Ot{g:Gh}{st:St}{w:World}(h:HR g st w){l e cap cw x:Nat}{c:Array Value}{t:TypeId}{fr:Nat×Nat}{st':St}(hm:st.nM<16777216)(hz:l*e<16777216)(hl:l<16777216)(he:e<256)(a:l<=cap)(hs:c.size=cap*e)(f:cw<2^(128*(l*e)))(hv:∀j,j<l*e->VR g (gt cw j) (c.getD j undef))(one:∀i,i<c.size->(c.getD i undef).oneCell'=true)(thaw:pK fr c.size)(b:7+16*st.nM+268435456*(l*e)+4503599627370496*l+75557863725914323419136*e=x)(d:{st with M:=ad st.M st.nM cw,nM:=st.nM+l*e+1}=st'): ∃g',Post g st w g' st' (w.alloc (.cells c t fr)) x (.slice (some ⟨w.heap.size,0,none⟩) l cap):=by
 have k:l*e<=c.size:=by rw[hs];exact jqk e a
 obtain⟨m,n⟩:=h.alloc c t fr k f hv one thaw;subst d;refine⟨_,m,n,Ext.refl _ _,?_,rfl,rfl⟩;have:x=aX st.nM (l*e) l e 0:=by rw[<-b];rfl
 rw[this];exact .cell _ _ (.sli st.nM (l*e) l e 0 w.heap.size 0 c.size cap _ hm hz hl he (by rw[Gh.bK,qzb rfl]) oqo a (.inr ⟨rfl,by omega⟩))
theorem Si{t el:TypeId}{len:Nat}{parts:Array (Nat×Operand)}{b:Bool}{q:TypeInfo}{z:Value}{ps:List Prt}{zs:Array Value}(ho:o.op=.buildSlice t len parts)(ht:P.underlying t=some (.slice el))(l:P.info? el=some q)(hz:q.zero=some z)(n:zs=(Array.range (len*q.size)).map (λi=>z.cells[i%z.cells.size]!))(s:dZ K zs.toList=true)(hn:len*q.size<16777216)(h0:len*q.size≠0)(hl:len<16777216)(he:q.size<256)(v:mi K (λi=>some (i*q.size,q.size,b)) (len*q.size) parts.toList=some ps):OpV P K o (Az len q.size (bW K zs.toList) ps):=λg st a w x st' hk u B e=>by
 have m:zs.size=len*q.size:=by rw[n];simp
 obtain⟨c1,c2⟩:=jo hk s;rw[jqh,m]at c1 c2;unfold Az at e;have r:¬len*q.size>2^24:=oqo;obtain⟨h1,e⟩:=ag e;have h1:=aY h1;cases d:jN st.T st.R ps (bW K zs.toList)with|none=>rw[d]at e;cases e|some c=>
  rw[d]at e;simp only[bX]at e;injection e with h k;simp only[nA,nM]at h k;obtain⟨cells,f,E,F,p⟩:=wT parts.toList ps v (λy C=>B y.2 (by simp only[ho,Op.operands,List.mem_toArray,qjb];exact⟨y,C,rfl⟩)) zs _ c m c1 (λj hj=>by have:=c2 j hj;rwa[qqm,qjf,<-qqg]at this) d;obtain⟨g',A⟩:=Ot (t:=el) u h1 hn hl he (qqf len) E F p (λi hi=>(p i oqo).one) (fr:=(0,0)) (.inl rfl) h k;refine⟨g',_,_,.inl ?_,A,λq=>absurd (ai (by simpa [ho,dB]using q)) (λe=>h0 (by rw[e,jzh]))⟩;simp only[jqb]at f;have D:(parts.map λx=>(x.1,a.eval x.2)).toList=parts.toList.map λx=>(x.1,a.eval x.2):=by simp
  rw[<-D,n]at f;simp only[execOp,ho,Instr.buildSlice,qjm,jqa ht,qjl,dF l,qzc r,qzc h0,zeroValue,jJ l,hz,jzc,f,newRow,run_newObj_alloc]
def Js(st:St):RS:=.ok 57 st
theorem Qn{t el:TypeId}{parts:Array (Nat×Operand)}{q:TypeInfo}(ho:o.op=.buildSlice t 0 parts)(ht:P.underlying t=some (.slice el))(h:P.info? el=some q)(f:parts=#[]):OpV P K o Js:=λg st a w x st' hk d k e=>by unfold Js at e;injection e with b c;subst b;subst c;subst f;obtain⟨i,j⟩:=d.push (.cells #[] el (0,0));refine⟨g,_,.slice (some ⟨w.heap.size,0,none⟩) 0 0,.inl ?_,⟨i,j,Ext.refl _ _,.cell _ _ (.semp _),rfl,rfl⟩,λ_=>.inr ⟨rfl,rfl,kX.push w _⟩⟩;simp[execOp,ho,Instr.buildSlice,jqa ht,dF h,Instr.fill,newRow,Array.range_zero']
end
end Ev
namespace Ev
section
variable {P:Program}{K:Kon}{o:Oper}
def Qu(x:Opd)(st:St):RS:=sel (Nat.beq (Nat.mod (rd st.T x) 16) 7) (.ok (Nat.add 2361183241434822606898 (Nat.mul 256 (sl (rd st.T x)))) st) (sel (Nat.beq (rd st.T x) 6) (.ok 2361183241434822606898 st) (sel (Nat.beq (rd st.T x) 57) (.ok 2361183241434822606898 st) .no))
theorem eG:(2361183241434822606898:Nat)=aC .i64 ((0:Nat):Int):=by decide
theorem TR.nil{g:Gh}{R nR w:Nat}{v:Value}(h:TR g R nR w v)(e:w=6):v=.slice none 0 0:=(h.aP oqo oqo oqo oqo).xN oqo
theorem TR.emp{g:Gh}{R nR w:Nat}{v:Value}(h:TR g R nR w v)(e:w=57):∃a,v=.slice (some a) 0 0:=(h.aP oqo oqo oqo oqo).yA e
theorem R9{t el:TypeId}{x:Operand}(ho:o.op=.call {callee:=.builtin .len,args:=#[x],argTypes:=#[t]})(ht:P.underlying t=some (.slice el)):OpV P K o (Qu (cOp K x)):=.pure λg st a w z st' _ _ j e=>by
 unfold Qu at e;have i:=j x (by simp[ho,Op.operands,Call.operands]);have key:∀(b:Option Addr)(n c:Nat),a.eval x=.slice b n c->(execOp a.eval o).run P w=.ok (.value (goInt n)) w:=λb n c hv=>by simp[execOp,ho,resolve,invoke,builtin,Builtin.len_,jqa ht,hv]
 cases h1:Nat.beq (Nat.mod (rd st.T (cOp K x)) 16) 7 with|true=>rw[h1,ak]at e;injection e with d f;simp only[nA,nM]at d;obtain⟨blk,base,room,cap,ad,k,h,a3,a4,a5,_⟩:=i.sli (ai h1);refine⟨f.symm,_,key _ _ _ h,?_⟩;rw[<-d,<-sV];exact .cell _ _ (.int _ _ oqo oqo)|false=>
  rw[h1,ah]at e;have z0:TR g st.R st.nR 2361183241434822606898 (goInt (0:Nat)):=by rw[eG];exact .cell _ _ (.int _ _ (by decide) (by decide))
  cases h2:Nat.beq (rd st.T (cOp K x)) 6 with|true=>rw[h2,ak]at e;injection e with d f;exact⟨f.symm,_,key _ _ _ (i.nil (ai h2)),by rw[<-d];exact z0⟩|false=>rw[h2,ah]at e;obtain⟨h3,e⟩:=ag e;injection e with d f;obtain⟨ad,h⟩:=i.emp (ai h3);exact⟨f.symm,_,key _ _ _ h,by rw[<-d];exact z0⟩
def JQ(n:Nat)(st:St):RS:=.ok (Nat.add 2361183241434822606898 (Nat.mul 256 n)) st
theorem PM{t el:TypeId}{x:Operand}{n:Nat}(ho:o.op=.call {callee:=.builtin .len,args:=#[x],argTypes:=#[t]})(ht:P.underlying t=some (.array n el))(hn:n<16777216):OpV P K o (JQ n):=.pure λg st a w z st' _ _ d e=>by
 unfold JQ at e;injection e with b c;simp only[nA,nM]at b;refine⟨c.symm,goInt n,?_,?_⟩;·simp[execOp,ho,resolve,invoke,builtin,Builtin.len_,jqa ht]
 ·rw[<-b,<-sV];exact .cell _ _ (.int _ _ oqo oqo)
def bnd(T:Nat)(x:Option Opd)(d:Nat):Nat:=Option.rec d (λy=>ixN (rd T y)) x
def pV(T:Nat)(x:Option Opd):Bool:=Option.rec true (λy=>qY (rd T y)) x
theorem Km{k:IntKind}{n y:Nat}{code:BoundsCode}(a:n<=y)(w:World):(Instr.sliceBound (.int k (n:Int)) y code).run P w=.ok n w:=by have:(0:Int)<=(n:Int)/\(n:Int)<=(y:Int):=oqo;simp only[Instr.sliceBound,asIntOf,qjm,jzc,qjl,qzb this,jxi]
theorem nW{x:Operand}{g:Gh}{R nR T:Nat}{a:Act}(h:TR g R nR (rd T (cOp K x)) (a.eval x))(b:qY (rd T (cOp K x))=true){y:Nat}{code:BoundsCode}(c:ixN (rd T (cOp K x))<=y)(w:World):(Instr.sliceBound (a.eval x) y code).run P w=.ok (ixN (rd T (cOp K x))) w:=by obtain⟨k,e⟩:=h.ixN b;rw[e];exact Km c w
theorem tY{b hi:Option Operand}{g:Gh}{R nR T:Nat}{a:Act}(hl:∀x,b=some x->TR g R nR (rd T (cOp K x)) (a.eval x))(k:∀x,hi=some x->TR g R nR (rd T (cOp K x)) (a.eval x))(j:pV T (b.map (cOp K))=true)(i:pV T (hi.map (cOp K))=true)(sl:Bool){len cap:Nat}(h1:bnd T (b.map (cOp K)) 0<=bnd T (hi.map (cOp K)) len)(h2:bnd T (hi.map (cOp K)) len<=len)(h3:len<=cap)(w:World):(Instr.sliceBounds sl len cap (b.map a.eval) (hi.map a.eval) none).run P w=.ok (bnd T (b.map (cOp K)) 0,bnd T (hi.map (cOp K)) len,cap) w:=by have f:∀x,b=some x->∀y c,ixN (rd T (cOp K x))<=y->(Instr.sliceBound (a.eval x) y c).run P w=.ok (ixN (rd T (cOp K x))) w:=λx d y c e=>nW (hl x d) (by subst d;exact j) e w;have h:∀x,hi=some x->∀y c,ixN (rd T (cOp K x))<=y->(Instr.sliceBound (a.eval x) y c).run P w=.ok (ixN (rd T (cOp K x))) w:=λx d y c e=>nW (k x d) (by subst d;exact i) e w;cases b with
 |none=>cases hi with|none=>simp[Instr.sliceBounds,bnd]|some y=>simp only[jqb,bnd]at h1 h2⊢;simp[Instr.sliceBounds,h y rfl _ _ (qzi h2 h3)]
 |some x=>cases hi with|none=>simp only[jqb,Option.map_none,bnd]at h1 h2⊢;simp[Instr.sliceBounds,f x rfl _ _ h1]|some y=>simp only[jqb,bnd]at h1 h2⊢;simp[Instr.sliceBounds,h y rfl _ _ (qzi h2 h3),f x rfl _ _ h1]
def Je(size:Nat)(x:Opd)(a hi:Option Opd)(st:St):RS:=sel (pV st.T a) (sel (pV st.T hi)
  (sel (Nat.beq (Nat.mod (rd st.T x) 16) 7)
   (sel (Nat.ble (bnd st.T a 0) (bnd st.T hi (sl (rd st.T x)))) (sel (Nat.ble (bnd st.T hi (sl (rd st.T x))) (sl (rd st.T x))) (sel (Nat.beq (se (rd st.T x)) size)
    (.ok (Nat.add (Nat.add (Nat.add (Nat.mod (rd st.T x) 4503599627370496) (Nat.mul 4503599627370496 (Nat.sub (bnd st.T hi (sl (rd st.T x))) (bnd st.T a 0)))) (Nat.mul 75557863725914323419136 size))
     (Nat.mul 19342813113834066795298816 (Nat.add (so (rd st.T x)) (Nat.mul (bnd st.T a 0) size)))) st) .no) .no) .no)
   (sel (Nat.beq (bnd st.T a 0) 0) (sel (Nat.beq (bnd st.T hi 0) 0) (sel (Nat.beq (rd st.T x) 6) (.ok 6 st) (sel (Nat.beq (rd st.T x) 57) (.ok 57 st) .no)) .no) .no)) .no) .no
theorem TU{s z l e q b a c:Nat}(hs:s<16777216)(hz:z<16777216):aX s z l e q%4503599627370496+4503599627370496*b+75557863725914323419136*a+19342813113834066795298816*c=aX s z b a c:=by unfold aX;omega
theorem OX{t el:TypeId}{x:Operand}{j hi:Option Operand}{i:TypeInfo}(ho:o.op=.slice t x j hi none)(ht:P.underlying t=some (.slice el))(J:P.info? el=some i):OpV P K o (Je i.size (cOp K x) (j.map (cOp K)) (hi.map (cOp K))):=.pure λg st a w z st' _ _ B e=>by
 unfold Je at e;obtain⟨h1,e⟩:=ag e;obtain⟨h2,e⟩:=ag e;have A:=B x (by simp[ho,Op.operands]);have hl:∀y,j=some y->TR g st.R st.nR (rd st.T (cOp K y)) (a.eval y):=λy hl=>B y (by simp[ho,Op.operands,hl]);have I:∀y,hi=some y->TR g st.R st.nR (rd st.T (cOp K y)) (a.eval y):=λy hl=>B y (by simp[ho,Op.operands,hl]);have key:∀(b:Option Addr)(n c:Nat),a.eval x=.slice b n c->n<=c->bnd st.T (j.map (cOp K)) 0<=bnd st.T (hi.map (cOp K)) n->bnd st.T (hi.map (cOp K)) n<=n->(execOp a.eval o).run P w=.ok (.value (.slice (if c=bnd st.T (j.map (cOp K)) 0 then b else b.map (·.add (bnd st.T (j.map (cOp K)) 0*i.size))) (bnd st.T (hi.map (cOp K)) n-bnd st.T (j.map (cOp K)) 0) (c-bnd st.T (j.map (cOp K)) 0))) w:=λb n c hv h3 d f=>by have:=tY (P:=P) hl I h1 h2 true d f h3 w;simp only[execOp,ho,Instr.sliceAt,Instr.slice,jqa ht,hv,Option.map_none,qjm,this,qjl,dF J,jzc]
 cases h3:Nat.beq (Nat.mod (rd st.T (cOp K x)) 16) 7 with|true=>
  rw[h3,ak]at e;obtain⟨d,e⟩:=ag e;obtain⟨f,e⟩:=ag e;obtain⟨m,e⟩:=ag e;injection e with k p;have d:=dY d;have f:=dY f;have m:=ai m;simp only[nA,nM,Ev.nS,Ev.nR]at k;obtain⟨blk,base,room,cap,ad,F,r,a3,a4,a5,q,D,G,a9,C⟩:=A.sli (ai h3);have hr:=key _ _ _ r a9 d f;rw[F,TU a3 a4]at k;rw[AY a3 a4 a5 q,Iq a3 a4 a5]at k;generalize bnd st.T (j.map (cOp K)) 0=l at*;generalize bnd st.T (hi.map (cOp K)) (sl (rd st.T (cOp K x)))=h at*;refine⟨p.symm,_,hr,?_⟩;have s:∀u v:Nat,u<=v->u*i.size<=v*i.size:=λu v L=>jqk _ L;have N:=s h (sl (rd st.T (cOp K x))) f;have O:(h-l)*i.size=h*i.size-l*i.size:=Nat.sub_mul _ _ _;have Q:(cap-l)*i.size=cap*i.size-l*i.size:=Nat.sub_mul _ _ _;have R:=s l h d;have S:=s (sl (rd st.T (cOp K x))) cap a9;rw[m]at G q C;have E:so (rd st.T (cOp K x))+l*i.size+(h-l)*i.size<=pz (rd st.T (cOp K x)):=oqo;rw[<-k];by_cases hc:cap=l;·rw[qzb hc];exact .cell _ _ (.sli _ _ _ _ _ blk base room _ _ a3 a4 oqo q D E oqo (.inl oqo))
  ·rw[qzc hc];obtain⟨rfl,M⟩:=C.resolve_left oqo;refine .cell _ _ (.sli _ _ _ _ _ blk base room _ _ a3 a4 oqo q D E oqo (.inr ⟨?_,by omega⟩));show Addr.add _ _=_;rw[kg,jqp]|false=>rw[h3,ah]at e;obtain⟨d,e⟩:=ag e;obtain⟨f,e⟩:=ag e;have d:=ai d;have f:=ai f;cases m:Nat.beq (rd st.T (cOp K x)) 6 with|true=>rw[m,ak]at e;injection e with k p;have hr:=key _ _ _ (A.nil (ai m)) (qqf _) oqo oqo;rw[d,f]at hr;exact⟨p.symm,_,hr,by rw[<-k];exact .cell _ _ .snil⟩|false=>rw[m,ah]at e;obtain⟨H,e⟩:=ag e;injection e with k p;obtain⟨ad,r⟩:=A.emp (ai H);have hr:=key _ _ _ r (qqf _) oqo oqo;rw[d,f]at hr;exact⟨p.symm,_,hr,by rw[<-k];exact .cell _ _ (.semp _)⟩
def JK(x:Opd)(a hi b:Option Opd)(st:St):RS:=sel (pV st.T a) (sel (pV st.T hi) (sel (pV st.T b) (sel (Nat.beq (bnd st.T a 0) 0) (sel (Nat.beq (bnd st.T hi 1) 0) (sel (Nat.beq (bnd st.T b 1) 0)
  (sel (Nat.beq (rd st.T x) 6) (.ok 6 st) (sel (Nat.beq (rd st.T x) 57) (.ok 57 st) (sel (Nat.beq (Nat.mod (rd st.T x) 16) 7) (.ok 57 st) .no))) .no) .no) .no) .no) .no) .no
theorem QI{t el:TypeId}{x:Operand}{k:Option Operand}{hi d:Operand}{i:TypeInfo}(ho:o.op=.slice t x k (some hi) (some d))(ht:P.underlying t=some (.slice el))(G:P.info? el=some i):OpV P K o (JK (cOp K x) (k.map (cOp K)) (some (cOp K hi)) (some (cOp K d))):=.pure λg st a w z st' _ _ j e=>by
 unfold JK at e;obtain⟨h1,e⟩:=ag e;obtain⟨h2,e⟩:=ag e;obtain⟨h3,e⟩:=ag e;obtain⟨p,e⟩:=ag e;obtain⟨q,e⟩:=ag e;obtain⟨r,e⟩:=ag e;have p:=ai p;have q:ixN (rd st.T (cOp K hi))=0:=ai q;have r:ixN (rd st.T (cOp K d))=0:=ai r;have v:=j x (by simp[ho,Op.operands]);have A:∀y c,(Instr.sliceBound (a.eval hi) y c).run P w=.ok 0 w:=λy c=>by have:=nW (P:=P) (y:=y) (code:=c) (j hi (by simp[ho,Op.operands])) h2 oqo w;rwa[q]at this
 have B:∀y c,(Instr.sliceBound (a.eval d) y c).run P w=.ok 0 w:=λy c=>by have:=nW (P:=P) (y:=y) (code:=c) (j d (by simp[ho,Op.operands])) h3 oqo w;rwa[r]at this
 have key:∀(b:Option Addr)(n c:Nat),a.eval x=.slice b n c->(execOp a.eval o).run P w=.ok (.value (.slice b 0 0)) w:=λb n c hv=>by
  have F:(Instr.sliceBounds true n c (k.map a.eval) (some (a.eval hi)) (some (a.eval d))).run P w=.ok (0,0,0) w:=by cases k with|none=>simp[Instr.sliceBounds,A,B]|some l=>
    have C:∀y c,(Instr.sliceBound (a.eval l) y c).run P w=.ok 0 w:=λy c=>by have D:ixN (rd st.T (cOp K l))=0:=p;have:=nW (P:=P) (y:=y) (code:=c) (j l (by simp[ho,Op.operands])) h1 oqo w;rwa[D]at this
    simp[Instr.sliceBounds,A,B,C]
  simp[execOp,ho,Instr.sliceAt,Instr.slice,jqa ht,hv,F,dF G]
 cases s:Nat.beq (rd st.T (cOp K x)) 6 with|true=>rw[s,ak]at e;injection e with f h;exact⟨h.symm,_,key _ _ _ (v.nil (ai s)),by rw[<-f];exact .cell _ _ .snil⟩|false=>rw[s,ah]at e;cases u:Nat.beq (rd st.T (cOp K x)) 57 with|true=>rw[u,ak]at e;injection e with f h;obtain⟨ad,m⟩:=v.emp (ai u);exact⟨h.symm,_,key _ _ _ m,by rw[<-f];exact .cell _ _ (.semp _)⟩|false=>rw[u,ah]at e;obtain⟨E,e⟩:=ag e;injection e with f h;obtain⟨blk,base,room,cap,ad,H,m,_⟩:=v.sli (ai E);exact⟨h.symm,_,key _ _ _ m,by rw[<-f];exact .cell _ _ (.semp _)⟩
def JD(n size:Nat)(x:Opd)(a hi:Option Opd)(st:St):RS:=sel (pV st.T a) (sel (pV st.T hi) (sel (Nat.beq (Nat.mod (rd st.T x) 16) 5) (sel (Nat.ble (bnd st.T a 0) (bnd st.T hi n)) (sel (Nat.ble (bnd st.T hi n) n) (sel (Nat.ble (Nat.add (po (rd st.T x)) (Nat.mul n size)) (pz (rd st.T x)))
  (.ok (Nat.add (Nat.add (Nat.add (Nat.add (Nat.mod (rd st.T x) 4503599627370496) 2) (Nat.mul 4503599627370496 (Nat.sub (bnd st.T hi n) (bnd st.T a 0)))) (Nat.mul 75557863725914323419136 size))
   (Nat.mul 19342813113834066795298816 (Nat.add (po (rd st.T x)) (Nat.mul (bnd st.T a 0) size)))) st) .no) .no) .no) .no) .no) .no
theorem QH{t el:TypeId}{x:Operand}{b hi:Option Operand}{n:Nat}{i:TypeInfo}(ho:o.op=.slice t x b hi none)(ht:P.underlying t=some (.array n el))(D:P.info? el=some i)(hn:n<16777216)(he:i.size<256):OpV P K o (JD n i.size (cOp K x) (b.map (cOp K)) (hi.map (cOp K))):=.pure λg st a w z st' _ hr0 k e=>by
 unfold JD at e;obtain⟨h1,e⟩:=ag e;obtain⟨h2,e⟩:=ag e;obtain⟨h3,e⟩:=ag e;obtain⟨d,e⟩:=ag e;obtain⟨f,e⟩:=ag e;obtain⟨j,e⟩:=ag e;injection e with m A;have d:=dY d;have f:=dY f;have j:=dY j;simp only[nA,nM,Ev.nS,Ev.nR]at m j;have hl:∀y,b=some y->TR g st.R st.nR (rd st.T (cOp K y)) (a.eval y):=λy hl=>k y (by simp[ho,Op.operands,hl]);have C:∀y,hi=some y->TR g st.R st.nR (rd st.T (cOp K y)) (a.eval y):=λy hl=>k y (by simp[ho,Op.operands,hl]);obtain⟨blk,base,room,r,s,a3,a4,a5,F⟩:=(k x (by simp[ho,Op.operands])).ptr (ai h3);obtain⟨c,G,fr,hc⟩:=hr0.cells _ _ _ _ _ a5;have H:=hc.room;have B:=tY (P:=P) hl C h1 h2 false d f (qqf n) w;have hz:z=aX (ps (rd st.T (cOp K x))) (pz (rd st.T (cOp K x))) (bnd st.T (hi.map (cOp K)) n-bnd st.T (b.map (cOp K)) 0) i.size (po (rd st.T (cOp K x))+bnd st.T (b.map (cOp K)) 0*i.size):=by
  rw[<-m];have:rd st.T (cOp K x)%4503599627370496=5+16*ps (rd st.T (cOp K x))+268435456*pz (rd st.T (cOp K x)):=by
   conv=>lhs;rw[r]
   unfold bR;omega
  rw[this];unfold aX;omega
 generalize bnd st.T (b.map (cOp K)) 0=l at*;generalize bnd st.T (hi.map (cOp K)) n=h at*;have q:∀u v:Nat,u<=v->u*i.size<=v*i.size:=λu v E=>jqk _ E;have I:=q h n f;have J:(h-l)*i.size=h*i.size-l*i.size:=Nat.sub_mul _ _ _;have L:(n-l)*i.size=n*i.size-l*i.size:=Nat.sub_mul _ _ _;have M:=q l h d;refine⟨A.symm,.slice (some (if n=l then⟨blk,base+po (rd st.T (cOp K x)),none⟩else Addr.add ⟨blk,base+po (rd st.T (cOp K x)),none⟩ (l*i.size))) (h-l) (n-l),?_,?_⟩;·simp only[execOp,ho,Instr.sliceAt,jqa ht,s,Instr.sureAddr,Option.map_none,qjm,B,qjl,dF D,jzc]
 ·rw[hz];have p:po (rd st.T (cOp K x))+l*i.size+(h-l)*i.size<=pz (rd st.T (cOp K x)):=oqo;by_cases hc:n=l;·rw[qzb hc];exact .cell _ _ (.sli _ _ _ _ _ blk base room _ _ a3 a4 oqo he a5 p oqo (.inl oqo))
  ·rw[qzc hc];refine .cell _ _ (.sli _ _ _ _ _ blk base room _ _ a3 a4 oqo he a5 p oqo (.inr ⟨?_,by omega⟩));show Addr.add _ _=_;rw[kg,jqp]
def JN(x:Opd)(a hi:Option Opd)(st:St):RS:=sel (pV st.T a) (sel (pV st.T hi) (sel (Nat.beq (Nat.mod (rd st.T x) 16) 3) (sel (Nat.ble (bnd st.T a 0) (bnd st.T hi (ln (rd st.T x)))) (sel (Nat.ble (bnd st.T hi (ln (rd st.T x))) (ln (rd st.T x))) (sel (Nat.blt (Nat.add (sa (rd st.T x)) (bnd st.T a 0)) 4294967296)
  (.ok (Nat.add (Nat.add 3 (Nat.mul 16 (Nat.sub (bnd st.T hi (ln (rd st.T x))) (bnd st.T a 0)))) (Nat.mul 268435456 (Nat.add (sa (rd st.T x)) (bnd st.T a 0)))) st) .no) .no) .no) .no) .no) .no
theorem NR{t:TypeId}{x:Operand}{d hi:Option Operand}(ho:o.op=.slice t x d hi none)(ht:P.underlying t=some .string):OpV P K o (JN (cOp K x) (d.map (cOp K)) (hi.map (cOp K))):=.pure λg st a w z st' _ hr0 i e=>by
 unfold JN at e;obtain⟨h1,e⟩:=ag e;obtain⟨h2,e⟩:=ag e;obtain⟨h3,e⟩:=ag e;obtain⟨f,e⟩:=ag e;obtain⟨b,e⟩:=ag e;obtain⟨c,e⟩:=ag e;injection e with j m;have f:=dY f;have b:=dY b;have c:=aY c;simp only[nA,nM,Ev.nS]at j c;have hl:∀y,d=some y->TR g st.R st.nR (rd st.T (cOp K y)) (a.eval y):=λy hl=>i y (by simp[ho,Op.operands,hl]);have p:∀y,hi=some y->TR g st.R st.nR (rd st.T (cOp K y)) (a.eval y):=λy hl=>i y (by simp[ho,Op.operands,hl]);obtain⟨q,k,a3,a4,a5⟩:=(i x (by simp[ho,Op.operands])).str (ai h3);have n:=tY (P:=P) hl p h1 h2 false f b (qqf _) w;generalize bnd st.T (d.map (cOp K)) 0=l at*;generalize bnd st.T (hi.map (cOp K)) (ln (rd st.T (cOp K x)))=h at*;refine⟨m.symm,.string (strOf g.S (sa (rd st.T (cOp K x))+l) (h-l)),?_,?_⟩;·simp only[execOp,ho,Instr.sliceAt,Instr.slice,jqa ht,k,Option.map_none,jzw,qjm,qjl,fJ,jzc];rw[qzc (by decide)];simp only[qjm,n,qjl,jzc,uk _ _ _ _ _ b]
 ·have:z=dC (sa (rd st.T (cOp K x))+l) (h-l):=by rw[<-j];rfl
  rw[this];exact .cell _ _ (.str _ _ oqo oqo c)
end
end Ev
